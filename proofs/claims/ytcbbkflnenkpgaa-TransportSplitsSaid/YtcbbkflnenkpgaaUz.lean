/-
  Contract of the reference's Usable; the walk of the statement on the parts of values. Condition: a slice that lies in memory.
-/
import Derived.Test.YtcbbkflnenkpgaaUt
import Derived.Test.YtcbbkflnenkpgaaUg
import Derived.Test.YtcbbkflnenkpgaaUw
namespace Go.Proofs.Ytcbbkflnenkpgaa
open Go.RowKit Go.Shelf
set_option linter.unusedVariables false
theorem P_oneSG {P : Program} {ops : Array Oper} {Q : Exit → Act → World → Prop} {md : Region.Mode} {S : World → Prop} {p : Nat} (i : Nat) (l' : Array Bool) {oi : Oper} {fuel : Nat} {listed : Array Bool} {a : Act} {w : World} (hi : ops[i]? = some oi) (hl : listed.setIfInBounds i true = l') (hr : Region.ready md ops listed = [i]) (hg : Region.wanted oi (yielded ops a.tmps) = true)
    (h : ∀ K : Act → World → Prop, (∀ a' w', S w' → wpAnyP P md ops Q S p fuel l' a' w' → K a' w') → oi.wp P a w K Q) : wpAnyP P md ops Q S p (fuel + 1) listed a w := by
  subst hl
  refine ⟨fun h0 => ?_, fun j hj => ?_⟩
  · rw [hr] at h0
    cases h0
  · rw [hr] at hj
    have hj' : j = i := by simpa using hj
    subst hj'
    unfold wpOp
    simp only [hi]
    rw [if_pos hg]
    exact .inl (h _ fun _ _ h1 h2 => ⟨fun _ => h1, h2⟩)
/-- the blocks have places for their values -/
def okS (b : Nat) (lm : Int) (C g m : Nat) : Prop := ∀ q, q < C → ¬ bad49 b lm C g m q
def RuI (W : World) (b : Nat) (lm : Int) (C g m : Nat) (i : Value) (wr : World) : Prop := ∃ j : Nat, j ≤ C ∧ i = .int .i64 j ∧ (∀ q, q < j → ¬ bad49 b lm C g m q) ∧ Below W.heap.size W wr
set_option maxRecDepth 100000 in
set_option maxHeartbeats 2000000 in
theorem rusable_ok (s C g m : Nat) (lm rv : Int) (w : World) (hs1 : 1 ≤ s) (hs2 : s ≤ 79536) (hCe : C = bC (s + 24)) (hmm : m = 2 ∨ m = 4 ∨ m = 6) (hgm : m * g ≤ 131072) (hlm : 1 ≤ lm) (hrv : 0 ≤ rv ∧ rv ≤ 3) :
    Calls Try.prog 21 #[.agg #[.int .i64 s, .int .i64 ((m * g : Nat) : Int), .int .i64 m, .int .i64 lm, .int .i64 rv]] w fun e w' => ∃ r : Bool, e = .returned (.bool r) ∧ (r = true ↔ okS (s + 24) lm C g m) ∧ Below w.heap.size w w' := by
  have HSH := Lib.hid (fun W => rshares_ok s C g m lm rv W hs1 hs2 hCe hmm hgm hlm hrv)
  have HLY := Lib.hid (fun W => rlay_any s W)
  have hly : ly15 s = (LY (s + 24), 0) := by unfold ly15; rw [if_neg (by omega)]; rfl
  rw [hly] at HLY
  have HEA := Lib.hid (fun W => reach_ok (s + 24) W (by omega) (by omega))
  obtain ⟨bt, hbt⟩ : ∃ bt, bt = ((m * g : Nat) : Int) := ⟨_, rfl⟩
  obtain ⟨b, hb⟩ : ∃ b, b = s + 24 := ⟨_, rfl⟩
  rw [← hb] at HLY HEA hCe ⊢
  rw [← hCe] at HEA
  rw [show ((b : Nat) : Int) = (s : Int) + 24 by omega] at HEA
  have hb1 : 1 ≤ b := by omega
  have hC2 : C ≤ 13 := by rw [hCe]; exact bC_le (by omega)
  rw [← hbt] at HSH ⊢
  have hsw : IntKind.i64.wrap ((s : Int) + 24) = (s : Int) + 24 := by rw [IntKind.wrap_i64]; omega
  have HGM : Hid (∀ q, shN C g m q ≤ 900000) := Lib.hid (fun q => by
    have h7 : (g / C + 1) * m ≤ (g + 1) * m := Nat.mul_le_mul_right m (Nat.succ_le_succ (Nat.div_le_self _ _))
    have h8 : g / C * m ≤ g * m := Nat.mul_le_mul_right m (Nat.div_le_self _ _)
    have h9 : (g + 1) * m = g * m + m := by rw [Nat.add_mul, Nat.one_mul]
    have h10 : g * m = m * g := Nat.mul_comm _ _
    unfold shN; split <;> omega)
  clear hbt hly hCe hmm hrv hgm hb
  have HC0 := Lib.hid (Blk.new w [.int .i64 s, .int .i64 bt, .int .i64 m, .int .i64 lm, .int .i64 rv] 33 rfl)
  have HB0 := Lib.hid (bal (Below.refl _ w) (.cells [Value.int .i64 s, .int .i64 bt, .int .i64 m, .int .i64 lm, .int .i64 rv].toArray 33))
  have hc0 := HC0.out
  go_enter Try.func21, Try.ntmps21
  go_wp2_with (first
    | (refine ldrow (cs := [.int .i64 s, .int .i64 bt, .int .i64 m, .int .i64 lm, .int .i64 rv]) rfl 33 (.tmp 1) rfl rfl hc0 _ Try.underlying33 rfl (by kernel_rfl) ?_)
    | (go_at_call 18; refine (HSH.out _).mono ?_; rintro e w1 ⟨An, cn, rfl, hOn, hB1⟩; have HN1 := Lib.hid (Own.rd hOn); have HC1 := Lib.hid (HC0.out.below hB1); have HB1 := Lib.hid (HB0.out.trans (hB1.mono HB0.out.size)); have k0 := HC1.out.cell (j := 0) (v := .int .i64 s) rfl; clear hB1 hc0 HC0 HB0 hOn)
    | (go_at_call 15; refine (HLY.out _).mono ?_; rintro e w2 ⟨rfl, hB2⟩; have hL0 : Blk (w2.alloc (.cells (ints8 zero7).toArray 23)) w2.heap.size 23 (ints8 zero7) := Blk.new w2 _ 23 rfl; have HN2 := Lib.hid (Rdv.alloc (Rdv.below HN1.out hB2) (.cells #[.int .i64 0, .int .i64 0, .int .i64 0, .int .i64 0, .int .i64 0, .int .i64 0, .int .i64 0] 23)); have HNL : Hid (An ≠ none → 0 < cn → blk An < w2.heap.size) := Lib.hid (fun hA hc => by obtain ⟨bb, oo, rfl, h9⟩ := Rdv.ptr (Rdv.below HN1.out hB2) hc; exact h9); have HC2 := Lib.hid ((HC1.out.below hB2).alloc (.cells #[.int .i64 0, .int .i64 0, .int .i64 0, .int .i64 0, .int .i64 0, .int .i64 0, .int .i64 0] 23)); have HB2 := Lib.hid (bal (HB1.out.trans (hB2.mono HB1.out.size)) (.cells #[.int .i64 0, .int .i64 0, .int .i64 0, .int .i64 0, .int .i64 0, .int .i64 0, .int .i64 0] 23)); have HLC := Lib.hid (Nat.lt_of_lt_of_le HC1.out.lt hB2.size); have HWL := Lib.hid (Nat.le_trans HB1.out.size hB2.size); clear hB2 k0; simp only [ints8, zero7, List.map_cons, List.map_nil] at hL0)
    | (refine strow (cs := ints8 (LY b)) rfl 23 (.tmp 5) (.tmp 18) rfl rfl rfl hL0 (by simp [ints8, LY]) (by rw [info23]; simp [ints8, LY]) (ints8_one _) ?_
       intro W3 g1 g2
       have HC3 := Lib.hid (HC2.out.grown g2 (fun e => by have h7 := HLC.out; have h8 := Option.some.inj e; omega))
       have HN3 := Lib.hid (Rdv.grown0 HN2.out g2 (fun hc e => by
         have h8 := Option.some.inj e
         by_cases hA : An = none
         · have := Rdv.nil HN2.out hA; omega
         · have := HNL.out hA hc; omega))
       have HB3 := Lib.hid (HB2.out.grown g2 HB2.out.size (fun k hk => by cases hk; exact HWL.out))
       have HL3 := Lib.hid g1
       have k1 := HC3.out.cell (j := 0) (v := .int .i64 s) rfl
       clear g1 g2 hL0)
    | (go_at_call 39; refine (HEA.out _).mono ?_; rintro e w4 ⟨Ak, ck, rfl, hOk, hB4⟩; have HK4 := Lib.hid (Own.rd hOk); have HN4 := Lib.hid (Rdv.below HN3.out hB4); have HL4 := Lib.hid (HL3.out.below hB4); have HC4 := Lib.hid (HC3.out.below hB4); have HB4 := Lib.hid (HB3.out.trans (hB4.mono HB3.out.size)); clear hOk hB4 k1 HC3 HN3 HB3 HL3 HC2 HN2 HB2))
  obtain ⟨LB, hLB⟩ : ∃ LB, LB = w2.heap.size := ⟨_, rfl⟩
  obtain ⟨CB, hCB⟩ : ∃ CB, CB = w.heap.size := ⟨_, rfl⟩
  rw [← hLB] at HL4 ⊢
  have HC5 : Hid (Blk w4 CB 33 [.int .i64 s, .int .i64 bt, .int .i64 m, .int .i64 lm, .int .i64 rv]) := Lib.hid (by rw [hCB]; exact HC4.out)
  rw [← hCB]
  clear HC4 hCB hLB HLC HNL HWL HC1 HN1 HB1 HEA HLY HSH
  go_loopw [8] (fun i wr => RuI w4 b lm C g m i wr) (fun i _ => C - (intOf i).toNat)
  case atStart => exact ⟨0, by omega, rfl, by omega, Below.refl _ _⟩
  case round =>
    obtain ⟨j, hj, rfl, hok, hB⟩ := hrel
    have HOK := Lib.hid hok
    have HB := Lib.hid hB
    clear hok
    have HBW := Lib.hid (HB4.out.trans (hB.mono HB4.out.size))
    by_cases hlt : j < C
    · have cN := Rd.cell (Rdv.below HN4.out hB) (j := j) hlt
      rw [shT_gi _ _ _ _ _ hlt, shr_cast] at cN
      have cK := Rd.cell (Rdv.below HK4.out hB) (j := j) hlt
      rw [gi_szs _ _ _ hlt] at cK
      have ixN := fun W => Rdv.ix HN4.out el34 (j := j) hlt .i64 W
      have ixK := fun W => Rdv.ix HK4.out el34 (j := j) hlt .i64 W
      have cB := (HC5.out.below hB).cell (j := 3) (v := .int .i64 lm) rfl
      have hLr := HL4.out.below hB
      have hub := HGM.out j
      obtain ⟨u, hu⟩ : ∃ u, u = shN C g m j := ⟨_, rfl⟩
      rw [← hu] at cN hub
      have HUE := Lib.hid hu
      clear hu hB
      by_cases hu0 : 0 < u
      · have hq : decide ((u : Int) > 0) = true := by simp; omega
        have HBU := Lib.hid (fun W => rbuf_ok (sz b j) (fl b j) lm W (sz_40 b j) (sz_ge (i := j) hb1).2 (fl_lt hb1) hlm)
        obtain ⟨U, hU⟩ : ∃ U, U = uS b lm j := ⟨_, rfl⟩
        have HU : Hid (usC ((bufL (sz b j) (fl b j)).take (szB (sz b j) lm)) = U) := Lib.hid (by rw [hU]; rfl)
        have HSZ : Hid (szB (sz b j) lm ≤ 100000) := Lib.hid (by have h7 := szB_bd (sz b j) hlm; have h8 := nB_le (sz_ge (i := j) hb1).2; omega)
        have HUS := Lib.hid hU
        have HS : Hid ((wr.drew.cell? (adr An j) = some (.int .i64 (u : Int)) ∧ wr.drew.cell? (adr Ak j) = some (.int .i64 (sz b j : Int))) ∧ Blk wr.drew LB 23 (ints8 (LY b)) ∧ wr.drew.cell? ⟨CB, 3, none⟩ = some (.int .i64 lm)) := Lib.hid ⟨⟨cN, cK⟩, hLr, cB⟩
        clear hU hLr
        by_cases hU0 : U = 0
        · have hqU : ((U : Int) == 0) = true := beq_t (by omega)
          have HU0 := Lib.hid hU0
          clear hU0
          go_wp2_with fail
          refine wp_nopanic ?_
          refine P_start (fun W => (W.cell? (adr An j) = some (.int .i64 (u : Int)) ∧ W.cell? (adr Ak j) = some (.int .i64 (sz b j : Int))) ∧ Blk W LB 23 (ints8 (LY b)) ∧ W.cell? ⟨CB, 3, none⟩ = some (.int .i64 lm)) 15 19 #[false, false, false, false, false, false, false, false, false, false, false, false, false, false, false, false, false, false, false] (by kernel_rfl) (by kernel_rfl) (by kernel_rfl) ?_
          refine P_takeW 0 34 (.slice An C cn) #[true, false, false, false, false, false, false, false, false, false, false, false, false, false, false, false, false, false, false] rfl rfl (by kernel_rfl) (by kernel_rfl) (by kernel_rfl) (by kernel_rfl) (by decide) (fun _ _ _ h => h) (Or.inl ⟨by rfl, fun W hS => by go_simp⟩) HS.out ?_
          simp only [List.setIfInBounds_toArray, List.set_cons_zero, List.set_cons_succ]
          refine P_takeW 1 35 (.int .i64 (j : Int)) #[true, true, false, false, false, false, false, false, false, false, false, false, false, false, false, false, false, false, false] rfl rfl (by kernel_rfl) (by kernel_rfl) (by kernel_rfl) (by kernel_rfl) (by decide) (fun _ _ _ h => h) (Or.inl ⟨by rfl, fun W hS => by go_simp⟩) HS.out ?_
          simp only [List.setIfInBounds_toArray, List.set_cons_zero, List.set_cons_succ]
          refine P_takeW 2 36 (.pointer (some (adr An j))) #[true, true, true, false, false, false, false, false, false, false, false, false, false, false, false, false, false, false, false] rfl rfl (by kernel_rfl) (by kernel_rfl) (by kernel_rfl) (by kernel_rfl) (by decide) (fun _ _ _ h => h) (Or.inl ⟨by rfl, fun W hS => by go_simp⟩) HS.out ?_
          simp only [List.setIfInBounds_toArray, List.set_cons_zero, List.set_cons_succ]
          refine P_takeT 3 37 (.int .i64 (u : Int)) #[true, true, true, true, false, false, false, false, false, false, false, false, false, false, false, false, false, false, false] [5, 4] rfl rfl (by kernel_rfl) (by kernel_rfl) (by kernel_rfl) (by kernel_rfl) (by kernel_rfl) (by kernel_rfl) (by kernel_rfl) (by decide) (fun _ _ _ h => h) (Or.inl ⟨by rfl, fun W hS => by obtain ⟨⟨hS1, hS2⟩, hS3, hS4⟩ := hS; go_simp⟩) HS.out ?_
          simp only [List.setIfInBounds_toArray, List.set_cons_zero, List.set_cons_succ]
          refine P_takeW 4 38 (.bool true) #[true, true, true, true, true, false, false, false, false, false, false, false, false, false, false, false, false, false, false] rfl rfl (by kernel_rfl) (by kernel_rfl) (by kernel_rfl) (by kernel_rfl) (by decide) (fun _ _ _ h => h) (Or.inl ⟨by rfl, fun W hS => by go_simp⟩) HS.out ?_
          simp only [List.setIfInBounds_toArray, List.set_cons_zero, List.set_cons_succ]
          refine P_takeW 5 39 (.bool true) #[true, true, true, true, true, true, false, false, false, false, false, false, false, false, false, false, false, false, false] rfl rfl (by kernel_rfl) (by kernel_rfl) (by kernel_rfl) (by kernel_rfl) (by decide) (fun _ _ _ h => h) (Or.inl ⟨by rfl, fun W hS => by go_simp⟩) HS.out ?_
          simp only [List.setIfInBounds_toArray, List.set_cons_zero, List.set_cons_succ]
          refine P_takeW 6 40 (.slice Ak C ck) #[true, true, true, true, true, true, true, false, false, false, false, false, false, false, false, false, false, false, false] rfl rfl (by kernel_rfl) (by kernel_rfl) (by kernel_rfl) (by kernel_rfl) (by decide) (fun _ _ _ h => h) (Or.inl ⟨by rfl, fun W hS => by go_simp⟩) HS.out ?_
          simp only [List.setIfInBounds_toArray, List.set_cons_zero, List.set_cons_succ]
          refine P_takeW 7 41 (.int .i64 (j : Int)) #[true, true, true, true, true, true, true, true, false, false, false, false, false, false, false, false, false, false, false] rfl rfl (by kernel_rfl) (by kernel_rfl) (by kernel_rfl) (by kernel_rfl) (by decide) (fun _ _ _ h => h) (Or.inl ⟨by rfl, fun W hS => by go_simp⟩) HS.out ?_
          simp only [List.setIfInBounds_toArray, List.set_cons_zero, List.set_cons_succ]
          refine P_takeW 8 42 (.pointer (some (adr Ak j))) #[true, true, true, true, true, true, true, true, true, false, false, false, false, false, false, false, false, false, false] rfl rfl (by kernel_rfl) (by kernel_rfl) (by kernel_rfl) (by kernel_rfl) (by decide) (fun _ _ _ h => h) (Or.inl ⟨by rfl, fun W hS => by go_simp⟩) HS.out ?_
          simp only [List.setIfInBounds_toArray, List.set_cons_zero, List.set_cons_succ]
          refine P_take 9 43 (.int .i64 (sz b j : Int)) #[true, true, true, true, true, true, true, true, true, true, false, false, false, false, false, false, false, false, false] rfl rfl (by kernel_rfl) (by kernel_rfl) (by kernel_rfl) (by kernel_rfl) (by kernel_rfl) (by kernel_rfl) (by decide) (fun _ _ _ h => h) (Or.inl ⟨by rfl, fun W hS => by obtain ⟨⟨hS1, hS2⟩, hS3, hS4⟩ := hS; go_simp⟩) HS.out ?_
          simp only [List.setIfInBounds_toArray, List.set_cons_zero, List.set_cons_succ]
          refine P_takeT 10 44 (.agg (ints8 (LY b)).toArray) #[true, true, true, true, true, true, true, true, true, true, true, false, false, false, false, false, false, false, false] [12] rfl rfl (by kernel_rfl) (by kernel_rfl) (by kernel_rfl) (by kernel_rfl) (by kernel_rfl) (by kernel_rfl) (by kernel_rfl) (by decide) (fun _ _ _ h => h) (yieldsIf_load_mid rfl 23 (.tmp 5) rfl LB (0) rfl (ints8 (LY b)) _ (fun W hS => fun q v hv => hS.2.1.cell (by rw [Nat.zero_add]; exact hv)) Try.underlying23 rfl (by rw [info23]; rfl)) HS.out ?_
          simp only [List.setIfInBounds_toArray, List.set_cons_zero, List.set_cons_succ]
          refine P_takeW 11 45 (.int .i64 (j : Int)) #[true, true, true, true, true, true, true, true, true, true, true, true, false, false, false, false, false, false, false] rfl rfl (by kernel_rfl) (by kernel_rfl) (by kernel_rfl) (by kernel_rfl) (by decide) (fun _ _ _ h => h) (Or.inl ⟨by rfl, fun W hS => by go_simp⟩) HS.out ?_
          simp only [List.setIfInBounds_toArray, List.set_cons_zero, List.set_cons_succ]
          refine P_takeW 13 47 (.pointer (some ⟨CB, 3, none⟩)) #[true, true, true, true, true, true, true, true, true, true, true, true, false, true, false, false, false, false, false] rfl rfl (by kernel_rfl) (by kernel_rfl) (by kernel_rfl) (by kernel_rfl) (by decide) (fun _ _ _ h => h) (Or.inl ⟨by rfl, fun W hS => by go_simp⟩) HS.out ?_
          simp only [List.setIfInBounds_toArray, List.set_cons_zero, List.set_cons_succ]
          refine P_take 14 48 (.int .i64 lm) #[true, true, true, true, true, true, true, true, true, true, true, true, false, true, true, false, false, false, false] rfl rfl (by kernel_rfl) (by kernel_rfl) (by kernel_rfl) (by kernel_rfl) (by kernel_rfl) (by kernel_rfl) (by decide) (fun _ _ _ h => h) (Or.inl ⟨by rfl, fun W hS => by obtain ⟨⟨hS1, hS2⟩, hS3, hS4⟩ := hS; go_simp⟩) HS.out ?_
          simp only [List.setIfInBounds_toArray, List.set_cons_zero, List.set_cons_succ]
          refine P_oneSG 12 #[true, true, true, true, true, true, true, true, true, true, true, true, true, true, true, false, false, false, false] rfl (by kernel_rfl) (by kernel_rfl) (by rfl) (fun K hK => ?_)
          go_simp
          refine (rfil_any b j _).mono ?_
          rintro e wa ⟨rfl, hBa⟩
          have HSa : Hid ((wa.cell? (adr An j) = some (.int .i64 (u : Int)) ∧ wa.cell? (adr Ak j) = some (.int .i64 (sz b j : Int))) ∧ Blk wa LB 23 (ints8 (LY b)) ∧ wa.cell? ⟨CB, 3, none⟩ = some (.int .i64 lm)) := Lib.hid ⟨⟨cell_below (w := wr.drew) HS.out.1.1 hBa, cell_below (w := wr.drew) HS.out.1.2 hBa⟩, HS.out.2.1.below hBa, cell_below (w := wr.drew) HS.out.2.2 hBa⟩
          have HBa := Lib.hid (((Below.refl wr.heap.size wr).drew).trans hBa)
          clear hBa
          refine hK _ _ HSa.out ?_
          clear hK K
          refine P_oneG 15 #[true, true, true, true, true, true, true, true, true, true, true, true, true, true, true, true, false, false, false] rfl (by kernel_rfl) (by kernel_rfl) (by rfl) (by kernel_rfl) (fun K hK => ?_)
          go_simp
          refine (HBU.out wa).mono ?_
          rintro e wb ⟨Ab, cb, rfl, hRb, hBb⟩
          have HRb := Lib.hid hRb
          have HBb := Lib.hid (HBa.out.trans (hBb.mono HBa.out.size))
          clear hRb hBb
          refine hK _ _ ?_
          clear hK K
          refine P_oneG 16 #[true, true, true, true, true, true, true, true, true, true, true, true, true, true, true, true, true, false, false] rfl (by kernel_rfl) (by kernel_rfl) (by rfl) (by kernel_rfl) (fun K hK => ?_)
          go_simp
          refine (rus_any Ab _ cb _ wb HRb.out HSZ.out).mono ?_
          rintro e wc ⟨rfl, hQc⟩
          have HBc := Lib.hid (HBb.out.trans (hQc.below _))
          clear hQc
          rw [HU.out]
          refine hK _ _ ?_
          clear hK K
          refine P_oneG 17 #[true, true, true, true, true, true, true, true, true, true, true, true, true, true, true, true, true, true, false] rfl (by kernel_rfl) (by kernel_rfl) (by rfl) (by kernel_rfl) (fun K hK => ?_)
          go_simp
          refine hK _ _ ?_
          clear hK K
          refine P_one 18 #[true, true, true, true, true, true, true, true, true, true, true, true, true, true, true, true, true, true, true] rfl (by kernel_rfl) (by kernel_rfl) rfl (by kernel_rfl) (fun K hK => ?_)
          go_simp
          refine hK _ _ ?_
          clear hK K
          refine P_done (by kernel_rfl) ?_ _
          refine noPanic_normal ?_
          have HBX := Lib.hid (HBW.out.trans (HBc.out.mono HBW.out.size))
          have HBY := Lib.hid (HB.out.trans (HBc.out.mono HB.out.size))
          have HBD : Hid (¬ okS b lm C g m) := Lib.hid (fun h => h j hlt ⟨by rw [← HUS.out]; exact HU0.out, by rw [← HUE.out]; exact hu0⟩)
          go_wp2
          go_ret
          exact ⟨false, rfl, ⟨nofun, fun h => (HBD.out h).elim⟩, HBX.out⟩
        · have hqU : ((U : Int) == 0) = false := beq_f (by omega)
          have HU0 := Lib.hid hU0
          clear hU0
          go_wp2_with fail
          refine wp_nopanic ?_
          refine P_start (fun W => (W.cell? (adr An j) = some (.int .i64 (u : Int)) ∧ W.cell? (adr Ak j) = some (.int .i64 (sz b j : Int))) ∧ Blk W LB 23 (ints8 (LY b)) ∧ W.cell? ⟨CB, 3, none⟩ = some (.int .i64 lm)) 15 19 #[false, false, false, false, false, false, false, false, false, false, false, false, false, false, false, false, false, false, false] (by kernel_rfl) (by kernel_rfl) (by kernel_rfl) ?_
          refine P_takeW 0 34 (.slice An C cn) #[true, false, false, false, false, false, false, false, false, false, false, false, false, false, false, false, false, false, false] rfl rfl (by kernel_rfl) (by kernel_rfl) (by kernel_rfl) (by kernel_rfl) (by decide) (fun _ _ _ h => h) (Or.inl ⟨by rfl, fun W hS => by go_simp⟩) HS.out ?_
          simp only [List.setIfInBounds_toArray, List.set_cons_zero, List.set_cons_succ]
          refine P_takeW 1 35 (.int .i64 (j : Int)) #[true, true, false, false, false, false, false, false, false, false, false, false, false, false, false, false, false, false, false] rfl rfl (by kernel_rfl) (by kernel_rfl) (by kernel_rfl) (by kernel_rfl) (by decide) (fun _ _ _ h => h) (Or.inl ⟨by rfl, fun W hS => by go_simp⟩) HS.out ?_
          simp only [List.setIfInBounds_toArray, List.set_cons_zero, List.set_cons_succ]
          refine P_takeW 2 36 (.pointer (some (adr An j))) #[true, true, true, false, false, false, false, false, false, false, false, false, false, false, false, false, false, false, false] rfl rfl (by kernel_rfl) (by kernel_rfl) (by kernel_rfl) (by kernel_rfl) (by decide) (fun _ _ _ h => h) (Or.inl ⟨by rfl, fun W hS => by go_simp⟩) HS.out ?_
          simp only [List.setIfInBounds_toArray, List.set_cons_zero, List.set_cons_succ]
          refine P_takeT 3 37 (.int .i64 (u : Int)) #[true, true, true, true, false, false, false, false, false, false, false, false, false, false, false, false, false, false, false] [5, 4] rfl rfl (by kernel_rfl) (by kernel_rfl) (by kernel_rfl) (by kernel_rfl) (by kernel_rfl) (by kernel_rfl) (by kernel_rfl) (by decide) (fun _ _ _ h => h) (Or.inl ⟨by rfl, fun W hS => by obtain ⟨⟨hS1, hS2⟩, hS3, hS4⟩ := hS; go_simp⟩) HS.out ?_
          simp only [List.setIfInBounds_toArray, List.set_cons_zero, List.set_cons_succ]
          refine P_takeW 4 38 (.bool true) #[true, true, true, true, true, false, false, false, false, false, false, false, false, false, false, false, false, false, false] rfl rfl (by kernel_rfl) (by kernel_rfl) (by kernel_rfl) (by kernel_rfl) (by decide) (fun _ _ _ h => h) (Or.inl ⟨by rfl, fun W hS => by go_simp⟩) HS.out ?_
          simp only [List.setIfInBounds_toArray, List.set_cons_zero, List.set_cons_succ]
          refine P_takeW 5 39 (.bool true) #[true, true, true, true, true, true, false, false, false, false, false, false, false, false, false, false, false, false, false] rfl rfl (by kernel_rfl) (by kernel_rfl) (by kernel_rfl) (by kernel_rfl) (by decide) (fun _ _ _ h => h) (Or.inl ⟨by rfl, fun W hS => by go_simp⟩) HS.out ?_
          simp only [List.setIfInBounds_toArray, List.set_cons_zero, List.set_cons_succ]
          refine P_takeW 6 40 (.slice Ak C ck) #[true, true, true, true, true, true, true, false, false, false, false, false, false, false, false, false, false, false, false] rfl rfl (by kernel_rfl) (by kernel_rfl) (by kernel_rfl) (by kernel_rfl) (by decide) (fun _ _ _ h => h) (Or.inl ⟨by rfl, fun W hS => by go_simp⟩) HS.out ?_
          simp only [List.setIfInBounds_toArray, List.set_cons_zero, List.set_cons_succ]
          refine P_takeW 7 41 (.int .i64 (j : Int)) #[true, true, true, true, true, true, true, true, false, false, false, false, false, false, false, false, false, false, false] rfl rfl (by kernel_rfl) (by kernel_rfl) (by kernel_rfl) (by kernel_rfl) (by decide) (fun _ _ _ h => h) (Or.inl ⟨by rfl, fun W hS => by go_simp⟩) HS.out ?_
          simp only [List.setIfInBounds_toArray, List.set_cons_zero, List.set_cons_succ]
          refine P_takeW 8 42 (.pointer (some (adr Ak j))) #[true, true, true, true, true, true, true, true, true, false, false, false, false, false, false, false, false, false, false] rfl rfl (by kernel_rfl) (by kernel_rfl) (by kernel_rfl) (by kernel_rfl) (by decide) (fun _ _ _ h => h) (Or.inl ⟨by rfl, fun W hS => by go_simp⟩) HS.out ?_
          simp only [List.setIfInBounds_toArray, List.set_cons_zero, List.set_cons_succ]
          refine P_take 9 43 (.int .i64 (sz b j : Int)) #[true, true, true, true, true, true, true, true, true, true, false, false, false, false, false, false, false, false, false] rfl rfl (by kernel_rfl) (by kernel_rfl) (by kernel_rfl) (by kernel_rfl) (by kernel_rfl) (by kernel_rfl) (by decide) (fun _ _ _ h => h) (Or.inl ⟨by rfl, fun W hS => by obtain ⟨⟨hS1, hS2⟩, hS3, hS4⟩ := hS; go_simp⟩) HS.out ?_
          simp only [List.setIfInBounds_toArray, List.set_cons_zero, List.set_cons_succ]
          refine P_takeT 10 44 (.agg (ints8 (LY b)).toArray) #[true, true, true, true, true, true, true, true, true, true, true, false, false, false, false, false, false, false, false] [12] rfl rfl (by kernel_rfl) (by kernel_rfl) (by kernel_rfl) (by kernel_rfl) (by kernel_rfl) (by kernel_rfl) (by kernel_rfl) (by decide) (fun _ _ _ h => h) (yieldsIf_load_mid rfl 23 (.tmp 5) rfl LB (0) rfl (ints8 (LY b)) _ (fun W hS => fun q v hv => hS.2.1.cell (by rw [Nat.zero_add]; exact hv)) Try.underlying23 rfl (by rw [info23]; rfl)) HS.out ?_
          simp only [List.setIfInBounds_toArray, List.set_cons_zero, List.set_cons_succ]
          refine P_takeW 11 45 (.int .i64 (j : Int)) #[true, true, true, true, true, true, true, true, true, true, true, true, false, false, false, false, false, false, false] rfl rfl (by kernel_rfl) (by kernel_rfl) (by kernel_rfl) (by kernel_rfl) (by decide) (fun _ _ _ h => h) (Or.inl ⟨by rfl, fun W hS => by go_simp⟩) HS.out ?_
          simp only [List.setIfInBounds_toArray, List.set_cons_zero, List.set_cons_succ]
          refine P_takeW 13 47 (.pointer (some ⟨CB, 3, none⟩)) #[true, true, true, true, true, true, true, true, true, true, true, true, false, true, false, false, false, false, false] rfl rfl (by kernel_rfl) (by kernel_rfl) (by kernel_rfl) (by kernel_rfl) (by decide) (fun _ _ _ h => h) (Or.inl ⟨by rfl, fun W hS => by go_simp⟩) HS.out ?_
          simp only [List.setIfInBounds_toArray, List.set_cons_zero, List.set_cons_succ]
          refine P_take 14 48 (.int .i64 lm) #[true, true, true, true, true, true, true, true, true, true, true, true, false, true, true, false, false, false, false] rfl rfl (by kernel_rfl) (by kernel_rfl) (by kernel_rfl) (by kernel_rfl) (by kernel_rfl) (by kernel_rfl) (by decide) (fun _ _ _ h => h) (Or.inl ⟨by rfl, fun W hS => by obtain ⟨⟨hS1, hS2⟩, hS3, hS4⟩ := hS; go_simp⟩) HS.out ?_
          simp only [List.setIfInBounds_toArray, List.set_cons_zero, List.set_cons_succ]
          refine P_oneSG 12 #[true, true, true, true, true, true, true, true, true, true, true, true, true, true, true, false, false, false, false] rfl (by kernel_rfl) (by kernel_rfl) (by rfl) (fun K hK => ?_)
          go_simp
          refine (rfil_any b j _).mono ?_
          rintro e wa ⟨rfl, hBa⟩
          have HSa : Hid ((wa.cell? (adr An j) = some (.int .i64 (u : Int)) ∧ wa.cell? (adr Ak j) = some (.int .i64 (sz b j : Int))) ∧ Blk wa LB 23 (ints8 (LY b)) ∧ wa.cell? ⟨CB, 3, none⟩ = some (.int .i64 lm)) := Lib.hid ⟨⟨cell_below (w := wr.drew) HS.out.1.1 hBa, cell_below (w := wr.drew) HS.out.1.2 hBa⟩, HS.out.2.1.below hBa, cell_below (w := wr.drew) HS.out.2.2 hBa⟩
          have HBa := Lib.hid (((Below.refl wr.heap.size wr).drew).trans hBa)
          clear hBa
          refine hK _ _ HSa.out ?_
          clear hK K
          refine P_oneG 15 #[true, true, true, true, true, true, true, true, true, true, true, true, true, true, true, true, false, false, false] rfl (by kernel_rfl) (by kernel_rfl) (by rfl) (by kernel_rfl) (fun K hK => ?_)
          go_simp
          refine (HBU.out wa).mono ?_
          rintro e wb ⟨Ab, cb, rfl, hRb, hBb⟩
          have HRb := Lib.hid hRb
          have HBb := Lib.hid (HBa.out.trans (hBb.mono HBa.out.size))
          clear hRb hBb
          refine hK _ _ ?_
          clear hK K
          refine P_oneG 16 #[true, true, true, true, true, true, true, true, true, true, true, true, true, true, true, true, true, false, false] rfl (by kernel_rfl) (by kernel_rfl) (by rfl) (by kernel_rfl) (fun K hK => ?_)
          go_simp
          refine (rus_any Ab _ cb _ wb HRb.out HSZ.out).mono ?_
          rintro e wc ⟨rfl, hQc⟩
          have HBc := Lib.hid (HBb.out.trans (hQc.below _))
          clear hQc
          rw [HU.out]
          refine hK _ _ ?_
          clear hK K
          refine P_oneG 17 #[true, true, true, true, true, true, true, true, true, true, true, true, true, true, true, true, true, true, false] rfl (by kernel_rfl) (by kernel_rfl) (by rfl) (by kernel_rfl) (fun K hK => ?_)
          go_simp
          refine hK _ _ ?_
          clear hK K
          refine P_one 18 #[true, true, true, true, true, true, true, true, true, true, true, true, true, true, true, true, true, true, true] rfl (by kernel_rfl) (by kernel_rfl) rfl (by kernel_rfl) (fun K hK => ?_)
          go_simp
          refine hK _ _ ?_
          clear hK K
          refine P_done (by kernel_rfl) ?_ _
          refine noPanic_normal ?_
          have HBX := Lib.hid (HBW.out.trans (HBc.out.mono HBW.out.size))
          have HBY := Lib.hid (HB.out.trans (HBc.out.mono HB.out.size))
          have HBD : Hid (¬ bad49 b lm C g m j) := Lib.hid (fun h => HU0.out (by rw [HUS.out]; exact h.1))
          go_wp2
          go_roundw
          case rel => exact ⟨j + 1, by omega, by go_num, lt_succ_cases HOK.out HBD.out, HBY.out⟩
          case measure => simp [intOf]; omega
      · have cN0 : wr.cell? (adr An j) = some (.int .i64 0) := by rw [cN, show u = 0 by omega]; rfl
        clear cN
        have HBD : Hid (¬ bad49 b lm C g m j) := Lib.hid (fun h => by have h9 := h.2; rw [← HUE.out] at h9; exact hu0 h9)
        clear hu0
        go_wp2_with fail
        go_quiet (fail)
        go_wp2
        go_roundw
        case rel => exact ⟨j + 1, by omega, by go_num, lt_succ_cases HOK.out HBD.out, HB.out.trans (Qt.below ⟨_, rfl⟩ _)⟩
        case measure => simp [intOf]; omega
    · obtain rfl : j = C := by omega
      go_wp2
      go_ret
      exact ⟨true, rfl, ⟨fun _ => HOK.out, fun _ => rfl⟩, HBW.out⟩
end Go.Proofs.Ytcbbkflnenkpgaa

namespace Go.Proofs.Ytcbbkflnenkpgaa
open Go.RowKit Go.Shelf
set_option linter.unusedVariables false
theorem own_of_ne' {A B : Option Addr} {n c : Nat} (hA : A ≠ none) (h : some (blk B) ≠ (Value.slice A n c).ownBlock) : some (blk B) ≠ some (blk A) := by
  obtain ⟨a, ha⟩ := Option.ne_none_iff_exists'.1 hA
  rw [ha] at h ⊢
  simpa [Value.ownBlock, blk] using h
theorem own_some' {e : TypeId} {w : World} {base : Nat} {A : Option Addr} {n c : Nat} {vs : List Value} (h : Ownv e w base A n c vs) {q : Nat} (hq : q < n) : A ≠ none := by
  rintro rfl
  have := Rdv.nil h.rd rfl
  have := Rdv.le h.rd
  omega
theorem Sv.of_v {r s : Sv} (h : r.v = s.v) : r.A = s.A ∧ r.n = s.n ∧ r.c = s.c := by
  unfold Sv.v at h
  simpa using h
section
variable {w w' : World} {base c : Nat} {A : Option Addr} {L : List Sv}
/-- one value of one row is replaced -/
theorem BI.putv (h : BI w base A c L) {k q : Nat} {r : Sv} (hk : L[k]? = some r) (hq : q < r.n) (u : Int) :
    BI (w.setCell (adr r.A q) (.int .i64 u)) base A c (L.set k ⟨r.A, r.n, r.c, r.xs.set q u⟩) ∧ w.grownBy (w.setCell (adr r.A q) (.int .i64 u)) (some (blk r.A)) ∧ (L.set k ⟨r.A, r.n, r.c, r.xs.set q u⟩).map Sv.v = L.map Sv.v := by
  have hr := h.r r (List.mem_of_getElem? hk)
  have h2 := Own.set_ hr hq u
  have hrA : r.A ≠ none := own_some' hr hq
  obtain ⟨hkl, hke⟩ := List.getElem?_eq_some_iff.1 hk
  have hmap : (L.set k ⟨r.A, r.n, r.c, r.xs.set q u⟩).map Sv.v = L.map Sv.v := by
    apply List.ext_getElem?
    intro j
    rw [List.getElem?_map, List.getElem?_map, List.getElem?_set]
    split
    · rename_i he; subst he; rw [hk]; rfl
    · rfl
  have hp := List.pairwise_iff_getElem.1 h.p
  refine ⟨⟨by rw [List.length_set, hmap]; exact h.o.grown h2.2 (fun hA => own_of_ne' hrA (rows_ne h.o hr (by decide) hA)), fun s hs => ?_, ?_⟩, h2.2, hmap⟩
  · obtain ⟨j, hj, he⟩ := List.getElem_of_mem hs
    rw [List.getElem_set] at he
    have hj' : j < L.length := by simpa using hj
    split at he
    · subst he; exact h2.1
    · rename_i hne
      subst he
      refine Ownv.grown (h.r _ (List.getElem_mem hj')) h2.2 (fun hjA he => ?_)
      have he := Option.some.inj he
      rcases Nat.lt_or_gt_of_ne hne with h3 | h3
      · exact hp k j hkl hj' h3 (by rw [hke]; exact hrA) hjA (by rw [hke]; exact he.symm)
      · exact hp j k hj' hkl h3 hjA (by rw [hke]; exact hrA) (by rw [hke]; exact he)
  · rw [List.pairwise_iff_getElem]
    intro i j hi hj hij
    have hi' : i < L.length := by simpa using hi
    have hj' : j < L.length := by simpa using hj
    have e : ∀ (x : Nat) (hx : x < (L.set k ⟨r.A, r.n, r.c, r.xs.set q u⟩).length), ((L.set k ⟨r.A, r.n, r.c, r.xs.set q u⟩)[x]).A = (L[x]'(by simpa using hx)).A := fun x hx => by
      rw [List.getElem_set]
      split
      · rename_i he; subst he; rw [hke]
      · rfl
    rw [e i hi, e j hj]
    exact hp i j hi' hj' hij
/-- a block beyond all of the list's own has turned -/
theorem BI.grownH (h : BI w base A c L) {B : Nat} {row : Option Nat} (hb : ∀ s ∈ L, s.A ≠ none → blk s.A < B) (hA : A ≠ none → blk A < B) (hr : ∀ k, row = some k → B ≤ k) (hg : w.grownBy w' row) : BI w' base A c L :=
  ⟨h.o.grown hg (fun h9 e => by have := hA h9; have := hr _ e.symm; omega), fun s hs => Ownv.grown (h.r s hs) hg (fun h9 e => by have := hb s hs h9; have := hr _ e.symm; omega), h.p⟩
end
/-- while the parts are put together again and spoilt -/
structure SlS (B1 B2 B3 : Nat) (W1 : World) (C g m : Nat) (A' : Option Addr) (c' : Nat) (L : List Sv) (An : Option Addr) (cn : Nat) (ys : List Int) (jb ja : Nat) (Aa : Option Addr) (na ca : Nat) (wr : World) : Prop where
  bi : ∃ L', BI wr B1 A' c' L' ∧ L'.map Sv.v = L.map Sv.v ∧ ∀ q, jb ≤ q → L'[q]? = L[q]?
  al : Own .i64 3 wr B3 Aa na ca (ys.take (offS C g m ja))
  ns : Rd .i64 wr An C cn (shT C g m C)
  bl : Below W1.heap.size W1 wr
  sz : B3 ≤ wr.heap.size
theorem SlS.drewN {B1 B2 B3 : Nat} {W1 : World} {C g m : Nat} {A' : Option Addr} {c' : Nat} {L : List Sv} {An : Option Addr} {cn : Nat} {ys : List Int} {jb ja : Nat} {Aa : Option Addr} {na ca : Nat} {wr : World}
    (h : SlS B1 B2 B3 W1 C g m A' c' L An cn ys jb ja Aa na ca wr) (q : Nat) : SlS B1 B2 B3 W1 C g m A' c' L An cn ys jb ja Aa na ca (wr.drewN q) := by
  obtain ⟨L', h1, h2, h3⟩ := h.bi
  exact ⟨⟨L', h1.below (Qt.below ⟨q, rfl⟩ _), h2, h3⟩, Ownv.drewN h.al q, Rdv.drewN h.ns q, h.bl.trans (Qt.below ⟨q, rfl⟩ _), h.sz⟩
/-- row i of the list that has been spoilt in part -/
theorem SlS.row {B1 B2 B3 : Nat} {W1 : World} {C g m : Nat} {A' : Option Addr} {c' : Nat} {L : List Sv} {An : Option Addr} {cn : Nat} {ys : List Int} {jb ja : Nat} {Aa : Option Addr} {na ca : Nat} {wr : World}
    (h : SlS B1 B2 B3 W1 C g m A' c' L An cn ys jb ja Aa na ca wr) {i : Nat} {s : Sv} (hi : L[i]? = some s) :
    wr.cell? (adr A' i) = some s.v ∧ ∃ zs, Own .i64 3 wr B1 s.A s.n s.c zs ∧ (jb ≤ i → zs = s.xs) := by
  obtain ⟨L', h1, h2, h3⟩ := h.bi
  have hl : (L'.map Sv.v)[i]? = some s.v := by rw [h2, List.getElem?_map, hi]; rfl
  refine ⟨h1.o.rd.at_ i s.v hl, ?_⟩
  rw [List.getElem?_map] at hl
  obtain ⟨r, hr, hv⟩ := Option.map_eq_some_iff.1 hl
  obtain ⟨e1, e2, e3⟩ := Sv.of_v hv
  refine ⟨r.xs, by rw [← e1, ← e2, ← e3]; exact h1.r r (List.mem_of_getElem? hr), fun hj => ?_⟩
  have h4 := h3 i hj
  rw [hr, hi] at h4
  rw [Option.some.inj h4]
/-- one value is spoilt -/
theorem SlS.put {B1 B2 B3 : Nat} {W1 : World} {C g m : Nat} {A' : Option Addr} {c' : Nat} {L : List Sv} {An : Option Addr} {cn : Nat} {ys : List Int} {jb ja : Nat} {Aa : Option Addr} {na ca : Nat} {wr : World}
    (h : SlS B1 B2 B3 W1 C g m A' c' L An cn ys jb ja Aa na ca wr) {i q : Nat} {s : Sv} (hi : L[i]? = some s) (hq : q < s.n) (hij : i < jb) (hb1 : B1 = W1.heap.size) (hlo : ∀ t ∈ L, t.A ≠ none → blk t.A < B2) (hB : B2 ≤ B3) (hn : An ≠ none → B2 ≤ blk An) (u : Int) :
    SlS B1 B2 B3 W1 C g m A' c' L An cn ys jb ja Aa na ca (wr.setCell (adr s.A q) (.int .i64 u)) := by
  obtain ⟨L', h1, h2, h3⟩ := h.bi
  have hl : (L'.map Sv.v)[i]? = some s.v := by rw [h2, List.getElem?_map, hi]; rfl
  rw [List.getElem?_map] at hl
  obtain ⟨r, hr, hv⟩ := Option.map_eq_some_iff.1 hl
  obtain ⟨e1, e2, e3⟩ := Sv.of_v hv
  have hrow := h1.r r (List.mem_of_getElem? hr)
  have hrA : r.A ≠ none := own_some' hrow (q := q) (by omega)
  obtain ⟨p1, p2, p3⟩ := h1.putv hr (q := q) (by omega) u
  have hlt : blk s.A < B2 := hlo s (List.mem_of_getElem? hi) (by rw [← e1]; exact hrA)
  have hge : B1 ≤ blk r.A := (Ownv.blk_of hrow hrA).1
  rw [e1] at p1 p2 p3 hge
  refine ⟨⟨_, p1, by rw [p3]; exact h2, fun x hx => ?_⟩, Ownv.grown h.al p2 (fun hA e => ?_), Rdv.grown h.ns p2 (fun hA e => ?_), h.bl.grown p2 h.bl.size (fun k e => ?_), Nat.le_trans h.sz p2.size⟩
  · rw [List.getElem?_set_ne (by omega)]; exact h3 x hx
  · have h8 := (Ownv.blk_of h.al hA).1
    have h9 := Option.some.inj e
    omega
  · have h8 := hn hA
    have h9 := Option.some.inj e
    omega
  · have h9 := Option.some.inj e
    omega
theorem SlS.app {B1 B2 B3 : Nat} {W1 : World} {C g m : Nat} {A' : Option Addr} {c' : Nat} {L : List Sv} {An : Option Addr} {cn : Nat} {ys : List Int} {jb ja jb' ja' : Nat} {Aa : Option Addr} {na ca : Nat} {wr : World}
    (h : SlS B1 B2 B3 W1 C g m A' c' L An cn ys jb ja Aa na ca wr) (hlo : ∀ t ∈ L, t.A ≠ none → blk t.A < B2) (hA : A' ≠ none → blk A' < B2) (hB : B2 ≤ B3) (hn : An ≠ none → blk An < B3) (hW : W1.heap.size ≤ B3) (hj : jb ≤ jb') {A2 : Option Addr} {n2 c2 : Nat} {w5 : World} {vs : List Value}
    (hO : Ownv 3 w5 B3 A2 n2 c2 vs) (hv : vs = (ys.take (offS C g m ja')).map (Value.int .i64)) (hg : wr.grownBy w5 ((Value.slice Aa na ca).ownBlock)) :
    SlS B1 B2 B3 W1 C g m A' c' L An cn ys jb' ja' A2 n2 c2 w5 := by
  obtain ⟨L', h1, h2, h3⟩ := h.bi
  have hob : ∀ k, (Value.slice Aa na ca).ownBlock = some k → B3 ≤ k := fun k hk => Ownv.ob' h.al hk
  have hlo' : ∀ t ∈ L', t.A ≠ none → blk t.A < B2 := fun t ht hA9 => by
    have h4 : t.v ∈ L.map Sv.v := by rw [← h2]; exact List.mem_map_of_mem ht
    obtain ⟨s, hs, he⟩ := List.mem_map.1 h4
    obtain ⟨e1, -, -⟩ := Sv.of_v he
    rw [← e1] at hA9 ⊢
    exact hlo s hs hA9
  refine ⟨⟨L', h1.grownH hlo' hA (fun k hk => Nat.le_trans hB (hob k hk)) hg, h2, fun q hq => h3 q (by omega)⟩, by rw [hv] at hO; exact hO, Rdv.grown h.ns hg (fun hA9 e => ?_), h.bl.grown hg h.bl.size (fun k e => ?_), Nat.le_trans h.sz hg.size⟩
  · have h8 := hn hA9
    have h9 := hob _ e.symm
    omega
  · have h9 := hob k e
    omega
def SoI (B1 B2 B3 : Nat) (W1 : World) (C g m : Nat) (A' : Option Addr) (c' : Nat) (L : List Sv) (An : Option Addr) (cn : Nat) (ys : List Int) (a i : Value) (wr : World) : Prop :=
  ∃ (j : Nat) (Aa : Option Addr) (ca : Nat), j ≤ C ∧ i = .int .i64 j ∧ a = .slice Aa (offS C g m j) ca ∧ SlS B1 B2 B3 W1 C g m A' c' L An cn ys j j Aa (offS C g m j) ca wr
def SnI (B1 B2 B3 : Nat) (W1 : World) (C g m : Nat) (A' : Option Addr) (c' : Nat) (L : List Sv) (An : Option Addr) (cn : Nat) (ys : List Int) (n j : Nat) (Aa : Option Addr) (ca : Nat) (k : Value) (wr : World) : Prop :=
  ∃ x : Nat, x ≤ n ∧ k = .int .i64 x ∧ SlS B1 B2 B3 W1 C g m A' c' L An cn ys (j + 1) (j + 1) Aa (offS C g m (j + 1)) ca wr
end Go.Proofs.Ytcbbkflnenkpgaa

namespace Go.Proofs.Ytcbbkflnenkpgaa
open Go.RowKit Go.Shelf
set_option linter.unusedVariables false
set_option maxRecDepth 100000 in
set_option maxHeartbeats 4000000 in
theorem splits_law (sz bt md lm rv : Int) (A : Option Addr) (n c : Nat) (ys : List Int) (w : World) (hy : Rd .i64 w A n c ys) : Calls Try.prog 5 #[.agg #[.int .i64 sz, .int .i64 bt, .int .i64 md, .int .i64 lm, .int .i64 rv], .slice A n c] w fun e w' => e = .returned (.bool true) ∧ Below w.heap.size w w' := by
  have hbd := hy.bd.1
  have hyl := hy.len
  by_cases hbig : 3000 < n
  · have q : decide ((n : Int) > 3000) = true := by simp; omega
    have hc0 := Blk.new w [.int .i64 sz, .int .i64 bt, .int .i64 md, .int .i64 lm, .int .i64 rv] 33 rfl
    have HC0 := Lib.hid hc0
    have HB0 := Lib.hid (bal (Below.refl _ w) (.cells [Value.int .i64 sz, .int .i64 bt, .int .i64 md, .int .i64 lm, .int .i64 rv].toArray 33))
    have HY0 := Lib.hid (Rdv.alloc hy (.cells [Value.int .i64 sz, .int .i64 bt, .int .i64 md, .int .i64 lm, .int .i64 rv].toArray 33))
    clear hy
    go_enter Try.func5, Try.ntmps5
    go_wp2_with fail
    refine (known_any _).mono ?_
    rintro e w9 ⟨rfl, hB9⟩
    have HBX := Lib.hid (HB0.out.trans (hB9.mono HB0.out.size))
    clear hB9
    go_wp2
    go_ret
    exact ⟨rfl, HBX.out⟩
  · have hn3 : n ≤ 3000 := by omega
    clear hbig
    by_cases hV : VC sz bt md lm rv = true
    · obtain ⟨s, g, m, rfl, rfl, rfl, hs1, hs2, hm, hgm, hlm, hrv1, hrv2⟩ := VC_true hV
      obtain ⟨C, hC⟩ : ∃ C, C = bC (s + 24) := ⟨_, rfl⟩
      have H18 := Lib.hid (fun W => rshares_ok s C g m lm rv W hs1 hs2 hC hm hgm hlm ⟨hrv1, hrv2⟩)
      have H21 := Lib.hid (fun W => rusable_ok s C g m lm rv W hs1 hs2 hC hm hgm hlm ⟨hrv1, hrv2⟩)
      have HTB := Lib.hid (fun h Ao co W => tsplit_bad s ((m * g : Nat) : Int) m lm rv Ao n co W (.inr h))
      have HTO := Lib.hid (fun h Ao co W => tsplit_ok s C g m lm rv Ao n co ys W hs1 hs2 hC hm hgm hlm ⟨hrv1, hrv2⟩ h)
      have hC2 : C ≤ 13 := by rw [hC]; exact bC_le (by omega)
      have hC1 : 1 ≤ C := by rw [hC]; exact bC_pos
      have HOF := Lib.hid (offS_all C g m hC1)
      obtain ⟨bt, hbt⟩ : ∃ bt, bt = ((m * g : Nat) : Int) := ⟨_, rfl⟩
      have HBT := Lib.hid hbt
      rw [← hbt] at H18 H21 HTB HTO ⊢
      have HGM := Lib.hid hgm
      clear hV hC hbt hm hgm hlm hrv1 hrv2 hs1 hs2
      by_cases hnb : (n : Int) = bt
      · have hne : ((n : Int) != bt) = false := bne_f hnb
        have hnm : n = m * g := by have := HBT.out; omega
        have HTO := Lib.hid (HTO.out hnm)
        have HOF := Lib.hid (show offS C g m C = n by rw [hnm]; exact HOF.out)
        clear hnb hnm HTB
        have hc0 := Blk.new w [.int .i64 s, .int .i64 bt, .int .i64 m, .int .i64 lm, .int .i64 rv] 33 rfl
        have HC0 := Lib.hid hc0
        have HB0 := Lib.hid (bal (Below.refl _ w) (.cells [Value.int .i64 s, .int .i64 bt, .int .i64 m, .int .i64 lm, .int .i64 rv].toArray 33))
        have HY0 := Lib.hid (Rdv.alloc hy (.cells [Value.int .i64 s, .int .i64 bt, .int .i64 m, .int .i64 lm, .int .i64 rv].toArray 33))
        clear hy
        go_enter Try.func5, Try.ntmps5
        go_wp2_with (first
          | (at_builtin; refine list_of rfl fun K hK => wp_app0 _ _ 34 rfl el34 rfl rfl HY0.out (oneCell_ints .i64 ys) (by omega) ?_; intro Ao co w1 hO1 hB1; have hc1 := HC0.out.below hB1; have HC1 := Lib.hid hc1; have HO1 := Lib.hid hO1; have HY1 := Lib.hid (Rdv.below HY0.out hB1); have HB1 := Lib.hid (HB0.out.trans (hB1.mono HB0.out.size)); clear hO1 hB1; refine hK _ _ ?_; clear hK K)
          | (refine ldrow (cs := [.int .i64 s, .int .i64 bt, .int .i64 m, .int .i64 lm, .int .i64 rv]) rfl 33 (.tmp 2) rfl rfl hc1 _ Try.underlying33 rfl (by kernel_rfl) ?_)
          | (refine ldrow (cs := [.int .i64 s, .int .i64 bt, .int .i64 m, .int .i64 lm, .int .i64 rv]) rfl 33 (.tmp 2) rfl rfl hc2 _ Try.underlying33 rfl (by kernel_rfl) ?_)
          | (refine ldrow (cs := [.int .i64 s, .int .i64 bt, .int .i64 m, .int .i64 lm, .int .i64 rv]) rfl 33 (.tmp 2) rfl rfl hc3 _ Try.underlying33 rfl (by kernel_rfl) ?_))
        refine (HTO.out Ao co w1 (Own.rd HO1.out)).mono ?_
        unfold TsPost
        rintro e w2 ⟨hB2, h⟩
        have hc2 := HC1.out.below hB2
        have HC2 := Lib.hid hc2
        have HB2 := Lib.hid hB2
        clear hc0 hc1 hB2
        rcases h with ⟨⟨q, hq, hbad⟩, rfl⟩ | ⟨hok, A', c', L, rfl, hBI, hxs⟩
        · have HBD : Hid (¬ okS (s + 24) lm C g m) := Lib.hid (fun h => h q hq hbad)
          clear hq hbad
          go_wp2_with (first
            | (refine ldrow (cs := [.int .i64 s, .int .i64 bt, .int .i64 m, .int .i64 lm, .int .i64 rv]) rfl 33 (.tmp 2) rfl rfl hc2 _ Try.underlying33 rfl (by kernel_rfl) ?_)
            | (refine ldrow (cs := [.int .i64 s, .int .i64 bt, .int .i64 m, .int .i64 lm, .int .i64 rv]) rfl 33 (.tmp 2) rfl rfl hc3 _ Try.underlying33 rfl (by kernel_rfl) ?_)
            | (go_at_call 18; refine (H18.out _).mono ?_; rintro e w3 ⟨An, cn, rfl, hO3, hB3⟩; have hc3 := HC2.out.below hB3; have HC3 := Lib.hid hc3; have k1 := hc3.cell (j := 1) (v := .int .i64 bt) rfl; have HB3 := Lib.hid hB3; clear hc2 hO3 hB3)
            | (go_at_call 21; refine (H21.out _).mono ?_; rintro e w4 ⟨r, rfl, hr, hB4⟩; have hrf : r = false := (by cases r; rfl; exact (HBD.out (hr.1 rfl)).elim); have HB4 := Lib.hid hB4; clear hB4; subst hrf))
          have d1 := HB1.out.trans (HB2.out.mono HB1.out.size)
          have d2 := d1.trans (HB3.out.mono d1.size)
          have HBZ := Lib.hid (d2.trans (HB4.out.mono d2.size))
          clear d1 d2
          refine (known_any _).mono ?_
          rintro e w9 ⟨rfl, hB9⟩
          have HBX := Lib.hid (HBZ.out.trans (hB9.mono HBZ.out.size))
          clear hB9
          go_wp2
          go_ret
          exact ⟨rfl, HBX.out⟩
        · have hLC : L.length = C := by have h9 := congrArg List.length hxs; simp only [List.length_map, prtS, List.length_range] at h9; exact h9
          have HOK := Lib.hid hok
          have HBI := Lib.hid hBI
          have HXS := Lib.hid hxs
          have hlc : ((L.length : Int) != (C : Int)) = false := bne_f (by omega)
          rw [hLC]
          rw [hLC] at hlc
          clear hok hBI hxs
          go_wp2_with (first
            | (refine ldrow (cs := [.int .i64 s, .int .i64 bt, .int .i64 m, .int .i64 lm, .int .i64 rv]) rfl 33 (.tmp 2) rfl rfl hc2 _ Try.underlying33 rfl (by kernel_rfl) ?_)
            | (refine ldrow (cs := [.int .i64 s, .int .i64 bt, .int .i64 m, .int .i64 lm, .int .i64 rv]) rfl 33 (.tmp 2) rfl rfl hc3 _ Try.underlying33 rfl (by kernel_rfl) ?_)
            | (go_at_call 18; refine (H18.out _).mono ?_; rintro e w3 ⟨An, cn, rfl, hO3, hB3⟩; have hc3 := HC2.out.below hB3; have HC3 := Lib.hid hc3; have k1 := hc3.cell (j := 1) (v := .int .i64 bt) rfl; have HB3 := Lib.hid hB3; have HO3 := Lib.hid hO3; clear hc2 hO3 hB3)
            | (go_at_call 21; refine (H21.out _).mono ?_; rintro e w4 ⟨r, rfl, hr, hB4⟩; have hrf : r = true := hr.2 HOK.out; have HB4 := Lib.hid hB4; clear hB4 hr; subst hrf))
          have h24 := HB3.out.trans (HB4.out.mono HB3.out.size)
          have h14 := HB2.out.trans (h24.mono HB2.out.size)
          have HYO := Lib.hid (Own.rd HO1.out)
          have HS0 : Hid (SlS w1.heap.size w2.heap.size w4.heap.size w1 C g m A' c' L An cn ys 0 0 none 0 0 w4) := Lib.hid ⟨⟨L, HBI.out.below h24, rfl, fun _ _ => rfl⟩, Own.nilv _ _ _ _, Own.rd (Ownv.below HO3.out HB4.out), h14, Nat.le_refl _⟩
          have HLO : Hid (∀ t ∈ L, t.A ≠ none → blk t.A < w2.heap.size) := Lib.hid (fun t ht hA => (Ownv.blk_of (HBI.out.r t ht) hA).2)
          have HHA : Hid (A' ≠ none → blk A' < w2.heap.size) := Lib.hid (fun hA => (Ownv.blk_of HBI.out.o hA).2)
          have HAN : Hid (An ≠ none → w2.heap.size ≤ blk An ∧ blk An < w3.heap.size) := Lib.hid (fun hA => Ownv.blk_of HO3.out hA)
          have HZ : Hid (w2.heap.size ≤ w4.heap.size ∧ w3.heap.size ≤ w4.heap.size) := Lib.hid ⟨h24.size, HB4.out.size⟩
          have hz := HZ.out
          clear h24 h14 k1 hc3 HB4 HB3 HO3 HC3 HC2 HB2 HBI HC1 HC0 HO1 H18 H21 HTO HOK HB0
          obtain ⟨B1, hB1e⟩ : ∃ B1, B1 = w1.heap.size := ⟨_, rfl⟩
          have HB1E := Lib.hid hB1e
          have HWZ : Hid (w1.heap.size ≤ w4.heap.size) := Lib.hid (HS0.out.bl.size)
          rw [← hB1e] at HS0
          clear hB1e
          generalize w2.heap.size = B2 at *
          generalize w4.heap.size = B3 at *
          go_loopw [10, 11] (fun a i wr => SoI B1 B2 B3 w1 C g m A' c' L An cn ys a i wr) (fun _ i _ => C - (intOf i).toNat)
          case atStart => exact ⟨0, none, 0, by omega, rfl, rfl, HS0.out⟩
          case round =>
            obtain ⟨j, Aa, ca, hj, rfl, rfl, hS⟩ := hrel
            have HS := Lib.hid hS
            clear hS HS0
            by_cases hlt : j < C
            · obtain ⟨s', hs'⟩ : ∃ s', L[j]? = some s' := ⟨_, List.getElem?_eq_getElem (by omega)⟩
              have HSJ := Lib.hid hs'
              obtain ⟨cj, zs, hO, hzs⟩ := HS.out.row hs'
              have hzx := hzs (Nat.le_refl _)
              subst hzx
              have hxsj : s'.xs = (ys.drop (offS C g m j)).take (shN C g m j) := by
                have h9 := congrArg (fun l => l[j]?) HXS.out
                simp only [List.getElem?_map, hs', prtS, List.getElem?_range hlt, Option.map_some] at h9
                exact Option.some.inj h9
              have hoff2 := offS_le (C := C) (g := g) (m := m) (show j + 1 ≤ C by omega)
              rw [HOF.out] at hoff2
              have hstep : offS C g m (j + 1) = offS C g m j + shN C g m j := rfl
              have hsn : s'.n = shN C g m j := by
                have h9 := Rd.len (Own.rd hO)
                rw [hxsj, List.length_take, List.length_drop] at h9
                omega
              have cnj := Rd.cell HS.out.ns (j := j) hlt
              rw [shT_gi _ _ _ _ _ hlt, shr_cast, ← hsn] at cnj
              have ixn := fun W => Rdv.ix HS.out.ns el34 (j := j) hlt .i64 W
              have hrd : Rdv wr A' C c' (L.map Sv.v) := by
                obtain ⟨L', h1, h2, -⟩ := HS.out.bi
                have h3 := h1.o.rd
                rw [h2] at h3
                have h4 : L'.length = C := by have := congrArg List.length h2; simpa [hLC] using this
                rwa [h4] at h3
              have ixl := fun W => Rdv.ix hrd el41 (j := j) hlt .i64 W
              have HRW := Lib.hid hO
              have hsv : s'.v = .slice s'.A s'.n s'.c := rfl
              rw [hsv] at cj
              have HTK : Hid (ys.take (offS C g m j) ++ s'.xs = ys.take (offS C g m (j + 1))) := Lib.hid (by
                rw [hxsj, hstep, List.take_add])
              have HSN : Hid (offS C g m j + s'.n = offS C g m (j + 1)) := Lib.hid (by rw [hstep, hsn])
              have hle : offS C g m j + s'.n ≤ 3000 := by omega
              have HN3 : Hid (s'.n ≤ 3000) := Lib.hid (by omega)
              have hsz := HS.out.sz
              have hss : ((s'.n : Int) != (s'.n : Int)) = false := bne_f rfl
              clear hO hzs hxsj hstep hs' hoff2 hsv hsn
              go_wp2_with fail
              go_quiet (fail)
              go_wp2_with (at_builtin; refine list_of rfl fun K hK => wp_app (base := B3) _ _ 34 rfl el34 rfl rfl (Ownv.drewN HS.out.al _) (Own.rd (Ownv.drewN HRW.out _)) (oneCell_ints .i64 s'.xs) (by omega) (by unfold maxLen; omega) (by simpa using hsz) ?_; intro A2 c2 w5 hO5 hg5; have HO5 := Lib.hid hO5; have HG5 := Lib.hid hg5; clear hO5 hg5; refine hK _ _ ?_; clear hK K)
              have HS5 : Hid (SlS B1 B2 B3 w1 C g m A' c' L An cn ys (j + 1) (j + 1) A2 (offS C g m (j + 1)) c2 w5) := Lib.hid (by
                rw [← HSN.out]
                exact SlS.app (HS.out.drewN nq) HLO.out HHA.out hz.1 (fun hA => by have := (HAN.out hA).2; omega) (by have := HWZ.out; omega) (Nat.le_succ _) HO5.out (by rw [← HTK.out, List.map_append]) HG5.out)
              rw [HSN.out]
              clear HO5 HG5 HTK HRW cj cnj ixn ixl hrd HSN hle hsz hss HS
              go_loopw [12] (fun k wr => SnI B1 B2 B3 w1 C g m A' c' L An cn ys s'.n j A2 c2 k wr) (fun k _ => s'.n - (intOf k).toNat)
              case atStart => exact ⟨0, by omega, rfl, HS5.out⟩
              case round =>
                obtain ⟨x, hx, rfl, hS⟩ := hrel
                obtain ⟨cj, zs, hO, -⟩ := hS.row HSJ.out
                have hsv : s'.v = .slice s'.A s'.n s'.c := rfl
                rw [hsv] at cj
                have hrd : Rdv wr A' C c' (L.map Sv.v) := by
                  obtain ⟨L', h1, h2, -⟩ := hS.bi
                  have h3 := h1.o.rd
                  rw [h2] at h3
                  have h4 : L'.length = C := by have := congrArg List.length h2; simpa [hLC] using this
                  rwa [h4] at h3
                have ixl := fun W => Rdv.ix hrd el41 (j := j) hlt .i64 W
                have HS6 := Lib.hid hS
                clear hS HS5 hsv
                by_cases hx2 : x < s'.n
                · have cx := Rd.cell (Own.rd hO) hx2
                  have fx := Ownv.frozen hO (by have := Rdv.le (Own.rd hO); omega) x
                  have ixx := fun W => Rdv.ix (Own.rd hO) el34 (j := x) hx2 .i64 W
                  have HPU := Lib.hid (fun u => HS6.out.put HSJ.out hx2 (Nat.lt_succ_self j) HB1E.out HLO.out hz.1 (fun hA => (HAN.out hA).1) u)
                  have hxb : (x : Int) + 1 ≤ 3002 := by have := HN3.out; omega
                  clear hO hrd
                  go_wp2_with fail
                  go_still_tail 14, (by kernel_rfl)
                  simp only [World.drew_eq]
                  go_wp2
                  go_roundw
                  case rel => exact ⟨x + 1, by omega, by go_num, (HPU.out _).drewN 1⟩
                  case measure => simp [intOf]; omega
                · obtain rfl : x = s'.n := by omega
                  clear hO hrd
                  go_wp2
                  go_roundw
                  case rel => exact ⟨j + 1, A2, c2, by omega, by go_num, rfl, HS6.out⟩
                  case measure => simp [intOf]; omega
            · obtain rfl : j = C := by omega
              have HAL := Lib.hid HS.out.al
              rw [HOF.out, List.take_of_length_le (by omega)] at HAL
              rw [HOF.out]
              have HYB := Lib.hid (Rdv.below HYO.out (by have := HS.out.bl; rw [← HB1E.out] at this ⊢; exact this))
              have HYV := Lib.hid (Rdv.below HY1.out (by have := HS.out.bl; rw [← HB1E.out] at this ⊢; exact this))
              have hbw := HB1.out.trans (HS.out.bl.mono HB1.out.size)
              have HBW := Lib.hid hbw
              clear hbw
              go_wp2_with fail
              refine (same4_any Aa A n ca n c ys ys _ (Own.rd HAL.out) HYV.out).mono ?_
              rintro e w6 ⟨he, q6, rfl⟩
              rw [decide_eq_true rfl] at he
              subst he
              go_wp2_with fail
              refine (same4_any Ao A n co n c ys ys _ (Rdv.drewN HYB.out q6) (Rdv.drewN HYV.out q6)).mono ?_
              rintro e w7 ⟨he, q7, rfl⟩
              rw [decide_eq_true rfl] at he
              subst he
              have HBV : Hid (Below w.heap.size w (wr.drewN (q6 + q7))) := Lib.hid (HBW.out.trans (Qt.below ⟨q6 + q7, rfl⟩ w.heap.size))
              go_wp2_with fail
              refine (known_any _).mono ?_
              rintro e w9 ⟨rfl, hB9⟩
              have HBX := Lib.hid (HBV.out.trans (hB9.mono HBV.out.size))
              clear hB9
              go_wp2
              go_ret
              exact ⟨rfl, HBX.out⟩
      · have hne : ((n : Int) != bt) = true := bne_t hnb
        have HTB := Lib.hid (HTB.out hnb)
        clear hnb HTO HOF H21
        have hc0 := Blk.new w [.int .i64 s, .int .i64 bt, .int .i64 m, .int .i64 lm, .int .i64 rv] 33 rfl
        have HC0 := Lib.hid hc0
        have HB0 := Lib.hid (bal (Below.refl _ w) (.cells [Value.int .i64 s, .int .i64 bt, .int .i64 m, .int .i64 lm, .int .i64 rv].toArray 33))
        have HY0 := Lib.hid (Rdv.alloc hy (.cells [Value.int .i64 s, .int .i64 bt, .int .i64 m, .int .i64 lm, .int .i64 rv].toArray 33))
        clear hy
        go_enter Try.func5, Try.ntmps5
        go_wp2_with (first
          | (at_builtin; refine list_of rfl fun K hK => wp_app0 _ _ 34 rfl el34 rfl rfl HY0.out (oneCell_ints .i64 ys) (by omega) ?_; intro Ao co w1 hO1 hB1; have hc1 := HC0.out.below hB1; have HC1 := Lib.hid hc1; have HO1 := Lib.hid hO1; have HY1 := Lib.hid (Rdv.below HY0.out hB1); have HB1 := Lib.hid (HB0.out.trans (hB1.mono HB0.out.size)); clear hO1 hB1; refine hK _ _ ?_; clear hK K)
          | (refine ldrow (cs := [.int .i64 s, .int .i64 bt, .int .i64 m, .int .i64 lm, .int .i64 rv]) rfl 33 (.tmp 2) rfl rfl hc1 _ Try.underlying33 rfl (by kernel_rfl) ?_)
          | (refine ldrow (cs := [.int .i64 s, .int .i64 bt, .int .i64 m, .int .i64 lm, .int .i64 rv]) rfl 33 (.tmp 2) rfl rfl hc2 _ Try.underlying33 rfl (by kernel_rfl) ?_)
          | (go_at_call 20; refine (HTB.out Ao co w1).mono ?_; rintro e w2 ⟨rfl, hB2⟩; have hc2 := HC1.out.below hB2; have HC2 := Lib.hid hc2; have HB2 := Lib.hid hB2; clear hc0 hc1 hB2)
          | (go_at_call 18; refine (H18.out _).mono ?_; rintro e w3 ⟨An, cn, rfl, hO3, hB3⟩; have k1 := (HC2.out.below hB3).cell (j := 1) (v := .int .i64 bt) rfl; have HB3 := Lib.hid hB3; clear hc2 hO3 hB3))
        have d1 := HB1.out.trans (HB2.out.mono HB1.out.size)
        have HBZ := Lib.hid (d1.trans (HB3.out.mono d1.size))
        clear d1
        refine (known_any _).mono ?_
        rintro e w9 ⟨rfl, hB9⟩
        have HBX := Lib.hid (HBZ.out.trans (hB9.mono HBZ.out.size))
        clear hB9
        go_wp2
        go_ret
        exact ⟨rfl, HBX.out⟩
    · have H18 := Lib.hid (fun W => rshares_bad sz bt md lm rv W (by simpa using hV))
      have HTB := Lib.hid (fun Ao co W => tsplit_bad sz bt md lm rv Ao n co W (.inl (by simpa using hV)))
      clear hV
      have hc0 := Blk.new w [.int .i64 sz, .int .i64 bt, .int .i64 md, .int .i64 lm, .int .i64 rv] 33 rfl
      have HC0 := Lib.hid hc0
      have HB0 := Lib.hid (bal (Below.refl _ w) (.cells [Value.int .i64 sz, .int .i64 bt, .int .i64 md, .int .i64 lm, .int .i64 rv].toArray 33))
      have HY0 := Lib.hid (Rdv.alloc hy (.cells [Value.int .i64 sz, .int .i64 bt, .int .i64 md, .int .i64 lm, .int .i64 rv].toArray 33))
      clear hy
      go_enter Try.func5, Try.ntmps5
      go_wp2_with (first
        | (at_builtin; refine list_of rfl fun K hK => wp_app0 _ _ 34 rfl el34 rfl rfl HY0.out (oneCell_ints .i64 ys) (by omega) ?_; intro Ao co w1 hO1 hB1; have hc1 := HC0.out.below hB1; have HC1 := Lib.hid hc1; have HO1 := Lib.hid hO1; have HY1 := Lib.hid (Rdv.below HY0.out hB1); have HB1 := Lib.hid (HB0.out.trans (hB1.mono HB0.out.size)); clear hO1 hB1; refine hK _ _ ?_; clear hK K)
        | (refine ldrow (cs := [.int .i64 sz, .int .i64 bt, .int .i64 md, .int .i64 lm, .int .i64 rv]) rfl 33 (.tmp 2) rfl rfl hc1 _ Try.underlying33 rfl (by kernel_rfl) ?_)
        | (refine ldrow (cs := [.int .i64 sz, .int .i64 bt, .int .i64 md, .int .i64 lm, .int .i64 rv]) rfl 33 (.tmp 2) rfl rfl hc2 _ Try.underlying33 rfl (by kernel_rfl) ?_)
        | (go_at_call 20; refine (HTB.out Ao co w1).mono ?_; rintro e w2 ⟨rfl, hB2⟩; have hc2 := HC1.out.below hB2; have HB2 := Lib.hid hB2; clear hc0 hc1 hB2)
        | (go_at_call 18; refine (H18.out _).mono ?_; rintro e w3 ⟨rfl, hB3⟩; have HB3 := Lib.hid hB3; clear hc2 hB3))
      have d1 := HB1.out.trans (HB2.out.mono HB1.out.size)
      have HBZ := Lib.hid (d1.trans (HB3.out.mono d1.size))
      clear d1
      refine (known_any _).mono ?_
      rintro e w9 ⟨rfl, hB9⟩
      have HBX := Lib.hid (HBZ.out.trans (hB9.mono HBZ.out.size))
      clear hB9
      go_wp2
      go_ret
      exact ⟨rfl, HBX.out⟩
end Go.Proofs.Ytcbbkflnenkpgaa

