/-
  Bundle of the texts Sc Sd. Conditions: none.
-/
import Derived.Test.YtpdalbckmfadbaaGreatBuhba
import Derived.Test.YtpdalbckmfadbaaGreatBuhav
namespace Go.Proofs.YtpdalbckmfadbaaGreat
open Go.RowKit Go.Shelf
set_option linter.unusedVariables false
attribute [local go_sem] Oper.semAt_some
section
variable {F : Fence} {n : Nat} {P : Program} {ops : Array Oper} {Q : Exit → Act → World → Prop} {md : Region.Mode} {S : World → Prop} {p : Nat}
theorem PI_oneO (i : Nat) (l' : Array Bool) {fuel : Nat} {listed : Array Bool} {a : Act} {w : World} (hl : listed.setIfInBounds i true = l') (hr : Region.ready md ops listed = [i]) (hp : l'.getD p true = true)
    (h : ∀ K : Act → World → Prop, (∀ a' w', wpInP F n P md ops Q S p fuel l' a' w' → K a' w') → wpOpIn F n P ops Q i K a w) : wpInP F n P md ops Q S p (fuel + 1) listed a w := by
  subst hl
  refine ⟨fun h0 => ?_, fun j hj => ?_⟩
  · rw [hr] at h0
    cases h0
  · rw [hr] at hj
    have hj' : j = i := by simpa using hj
    subst hj'
    exact h _ fun _ _ h2 => ⟨fun h9 => (by rw [hp] at h9; cases h9), h2⟩
theorem PI_oneY (i d : Nat) (v : Value) (l' : Array Bool) {oi : Oper} {fuel : Nat} {listed : Array Bool} {ts : Array Value} {ds : List Deferred} {w : World} (hro : F.round = none) (hi : ops[i]? = some oi) (hd : oi.dst = some d) (hl : listed.setIfInBounds i true = l') (hr : Region.ready md ops listed = [i]) (hp : l'.getD p true = true)
    (hy : YieldsFor P ops (fun _ => True) oi v ⟨ts, ds⟩) (h : wpInP F n P md ops Q S p fuel l' ⟨ts.setIfInBounds d v, ds⟩ w) : wpInP F n P md ops Q S p (fuel + 1) listed ⟨ts, ds⟩ w :=
  PI_oneO i l' hl hr hp (fun K hK => YieldsFor.goes (S := fun _ => True) hro hi hy trivial (hK _ _ (by rw [hd]; exact h)))
end
/-- what the body may turn -/
def KpQ (q : Nat) (x : Int × Option Addr × Nat) (A B : World) : Prop := KpB [q, blk x.2.1] A B ∧ ∀ v, Blk A q 3 [v] → ∃ v', Blk B q 3 [v']
def encH (k : Nat) (x : Int × Option Addr × Nat) : Array Value := #[.int .i64 x.1, .slice x.2.1 k x.2.2]
/-- what is yielded -/
def OkH (vs : List Int) (k N B : Nat) (pre : List (Int × Option Addr × Nat)) (x : Int × Option Addr × Nat) (W : World) : Prop :=
  pre.length < N ∧ x.1 = (pre.length : Int) + 1 ∧ Own .u8 5 W B x.2.1 k x.2.2 (decN vs k pre.length)
def HvQ (N : Nat) (J Jx : List (Int × Option Addr × Nat) → World → Prop) (e : Ending) (W' : World) : Prop :=
  (∃ v, e = .returned v) ∧ ((∃ xs, xs.length = N ∧ J xs W') ∨ (∃ pre, pre.length ≤ N ∧ Jx pre W'))
def HlI (J : List (Int × Option Addr × Nat) → World → Prop) (W0 : World) (DB KB q k : Nat) (vs : List Int) (kind : Int) (most : Nat) (i : Value) (wr : World) : Prop :=
  ∃ h : Nat, h ≤ most ∧ i = .int .i64 (h : Int) ∧ (∃ pre, pre.length = h ∧ J pre wr) ∧ StN wr DB k vs h ∧ (∀ p, p < h → okN kind vs k p = false) ∧ Blk wr KB 24 [.int .i64 kind] ∧ (∃ v, Blk wr q 3 [v]) ∧ W0.heap.size ≤ wr.heap.size
theorem infoD : (Tryz.prog.info? 97).map (·.size) = some 6 := by kernel_rfl
/-- the number of halves -/
noncomputable def nHv (vs : List Int) (k : Nat) (kind : Int) (most : Nat) : Nat := match (List.range most).find? (okN kind vs k) with | some j => j + 1 | none => most
theorem nHv_ok {vs : List Int} {k : Nat} {kind : Int} {most h : Nat} (h1 : h < most) (h2 : ∀ p, p < h → okN kind vs k p = false) : h < nHv vs k kind most := by
  unfold nHv
  cases hf : (List.range most).find? (okN kind vs k) with
  | none => exact h1
  | some j =>
    rw [List.find?_range_eq_some] at hf
    show h < j + 1
    rcases Nat.lt_or_ge j h with h3 | h3
    · have := h2 j h3; rw [hf.1] at this; cases this
    · omega
theorem nHv_stop {vs : List Int} {k : Nat} {kind : Int} {most h : Nat} (h1 : h < most) (h2 : ∀ p, p < h → okN kind vs k p = false) (h3 : okN kind vs k h = true) : nHv vs k kind most = h + 1 := by
  unfold nHv
  rw [show (List.range most).find? (okN kind vs k) = some h from by
    rw [List.find?_range_eq_some]; exact ⟨h3, List.mem_range.2 h1, fun q hq => by rw [h2 q hq]; rfl⟩]
theorem nHv_none {vs : List Int} {k : Nat} {kind : Int} {most : Nat} (h2 : ∀ p, p < most → okN kind vs k p = false) : nHv vs k kind most = most := by
  unfold nHv
  rw [show (List.range most).find? (okN kind vs k) = none from by
    rw [List.find?_eq_none]; intro q hq; rw [h2 q (List.mem_range.1 hq)]; decide]
set_option maxRecDepth 100000 in
set_option maxHeartbeats 4000000 in
theorem halves_in (l k u : Nat) (vs : List Int) (kind : Int) (most EB PB MB KB D0 q : Nat) (V : Option Addr) (vc : Nat) (O : Option Addr) (oc : Nat) (I : Option Addr) (ic : Nat) (A : Option Addr) (ac : Nat) (v0 : Value) (W : World)
    (hu : k = Tu.szK u) (hkd : 0 ≤ kind ∧ kind ≤ 4) (hm : 1 ≤ most ∧ most ≤ 64) (hs : SoftB vs = true)
    (hE : Blk W EB 27 [.int .i64 0]) (hP : Blk W PB 90 [.pointer (some ⟨D0, 0, none⟩)]) (hM : Blk W MB 3 [.int .i64 (most : Int)]) (hK : Blk W KB 24 [.int .i64 kind])
    (hD : DS W D0 k vs (List.replicate k 0) [] 0 V vc O oc I ic A ac none 0 0) (hq : Blk W q 3 [v0]) (hqK : KB ≠ q)
    (J Jx : List (Int × Option Addr × Nat) → World → Prop) (hJ : Cl W.heap.size J) (hJx : Cl W.heap.size Jx)
    (hY : ∀ pre x W1, J pre W1 → OkH vs k (nHv vs k kind most) W.heap.size pre x W1 → YieldAt Fence.wide 1 Tryz.prog l (encH k x) W1 fun e W' =>
      (e = .returned (.bool true) ∧ J (pre ++ [x]) W' ∧ KpQ q x W1 W') ∨ (e = .returned (.bool false) ∧ Jx (pre ++ [x]) W'))
    (h0 : J [] W) :
    CallsIn Fence.wide 2 Tryz.prog 59 #[.func (.yield l) #[] #[], .pointer (some ⟨EB, 0, none⟩), .pointer (some ⟨PB, 0, none⟩), .pointer (some ⟨MB, 0, none⟩), .pointer (some ⟨KB, 0, none⟩)] W (HvQ (nHv vs k kind most) J Jx) := by
  have hb := Tu.szK_bd u
  rw [← hu] at hb
  have hk9 : 2 ≤ k ∧ k ≤ 6144 := by omega
  have HNX := Lib.hid (fun D h W hst hh => next_any D k u h vs W hu hst hs hh)
  have HPS := Lib.hid (fun D h R rc V vc O oc I ic A ac B bn bc W h1 h2 h3 hh => pass_any D k h vs kind R rc V vc O oc I ic A ac B bn bc W hkd.1 h1 h2 h3 hh (by omega))
  have HKP : Hid (∀ (Wb W1 W' : World) (D h g : Nat) (v : Value), StN Wb D k vs h → Below Wb.heap.size Wb W1 → KpB [q, g] W1 W' → Wb.heap.size ≤ g → Blk Wb q 3 [v] → StN W' D k vs h) := Lib.hid (fun Wb W1 W' D h g v hst hB hkp hg hv => StN.kp hst hs hB hkp hg hv hk9)
  have HDL := Lib.hid (fun h => decN_len (vs := vs) hs (k := k) (by omega) h)
  have HM := Lib.hid hm
  have hm9 : most ≤ 64 := hm.2
  have cE := hE.cell (j := 0) (v := .int .i64 0) rfl
  have cP := hP.cell (j := 0) (v := .pointer (some ⟨D0, 0, none⟩)) rfl
  have cM := hM.cell (j := 0) (v := .int .i64 (most : Int)) rfl
  have HKB := Lib.hid hK
  have HQ := Lib.hid hq
  have HD := Lib.hid hD
  have HDB := Lib.hid hD.b
  have HM1 := Lib.hid hM
  have HQK := Lib.hid hqK
  have HN := Lib.hid (fun h (h1 : h < most) (h2 : ∀ p, p < h → okN kind vs k p = false) => nHv_ok h1 h2)
  have HN1 := Lib.hid (fun h (h1 : h < most) (h2 : ∀ p, p < h → okN kind vs k p = false) (h3 : okN kind vs k h = true) => nHv_stop h1 h2 h3)
  have HN2 := Lib.hid (fun (h2 : ∀ p, p < most → okN kind vs k p = false) => nHv_none h2)
  obtain ⟨N, hNe⟩ : ∃ N, N = nHv vs k kind most := ⟨_, rfl⟩
  rw [← hNe] at hY HN HN1 HN2 ⊢
  clear hu hkd hm hs hE hP hM hK hD hq hb hNe hqK
  refine callsIn_of_wp Tryz.func59 rfl trivial ?_ rfl
  simp only [Tryz.ntmps59, List.size_toArray, List.length_cons, List.length_nil, Nat.reduceAdd, Nat.reduceSub, Array.replicate_succ, Array.replicate_zero, List.push_toArray, List.append_toArray, List.nil_append, List.cons_append]
  refine wpIn_scope_straight rfl ?_
  gi_wp2_with (refine listIn_of rfl nofun fun K hK => wp_ldrow (cs := [.slice V (3 * (k + 4)) vc, .slice O k oc, .slice I k ic, .slice A k ac, .slice none 0 0, .int .i64 0]) 97 (.tmp 12) rfl rfl HDB.out _ Tryz.underlying97 rfl (by rw [infoD]; rfl) ?_; refine hK _ _ ?_; clear hK K)
  have hDS : StN (W.alloc (.cells #[.slice V (3 * (k + 4)) vc, .slice O k oc, .slice I k ic, .slice A k ac, .slice none 0 0, .int .i64 0] 97)) W.heap.size k vs 0 :=
    ⟨V, vc, O, oc, I, ic, A, ac, none, 0, 0, ⟨Blk.new W [.slice V (3 * (k + 4)) vc, .slice O k oc, .slice I k ic, .slice A k ac, .slice none 0 0, .int .i64 0] _ rfl, Rdv.alloc HD.out.v _, Rdv.alloc HD.out.o _, Rdv.alloc HD.out.i _, Rdv.alloc HD.out.a _, Rd.nilv .u8 _, rd_ne_top HD.out.v (by omega), rd_ne_top HD.out.o (by omega), rd_ne_top HD.out.i (by omega), rd_ne_top HD.out.a (by omega), fun h => absurd rfl h⟩⟩
  have HST := Lib.hid hDS
  have HKD : Hid (KB < W.heap.size ∧ q < W.heap.size) := Lib.hid ⟨HKB.out.lt, HQ.out.lt⟩
  have HJ1 := Lib.hid (hJ.alloc (.cells #[.slice V (3 * (k + 4)) vc, .slice O k oc, .slice I k ic, .slice A k ac, .slice none 0 0, .int .i64 0] 97) h0)
  have HKB1 := Lib.hid (HKB.out.alloc (.cells #[.slice V (3 * (k + 4)) vc, .slice O k oc, .slice I k ic, .slice A k ac, .slice none 0 0, .int .i64 0] 97))
  have HQ1 := Lib.hid (HQ.out.alloc (.cells #[.slice V (3 * (k + 4)) vc, .slice O k oc, .slice I k ic, .slice A k ac, .slice none 0 0, .int .i64 0] 97))
  have cM1 := (HM1.out.alloc (.cells #[.slice V (3 * (k + 4)) vc, .slice O k oc, .slice I k ic, .slice A k ac, .slice none 0 0, .int .i64 0] 97)).cell (j := 0) (v := .int .i64 (most : Int)) rfl
  have HZ1 : Hid (W.heap.size ≤ (W.alloc (.cells #[.slice V (3 * (k + 4)) vc, .slice O k oc, .slice I k ic, .slice A k ac, .slice none 0 0, .int .i64 0] 97)).heap.size) := Lib.hid (by simp)
  clear hDS HKB HQ HD HDB HM1 cE cP cM h0
  obtain ⟨DB, hDB⟩ : ∃ DB, DB = W.heap.size := ⟨_, rfl⟩
  have hJc : Cl DB J := by rw [hDB]; exact hJ
  have HDBe := Lib.hid hDB
  rw [← hDB] at HST HKD ⊢
  clear hDB hJ
  generalize W.alloc (.cells #[.slice V (3 * (k + 4)) vc, .slice O k oc, .slice I k ic, .slice A k ac, .slice none 0 0, .int .i64 0] 97) = W1 at *
  refine wpIn_label ?_
  rename_i K hK
  refine hK _ _ ?_
  clear hK K
  gi_wp2_with fail
  gi_loopw [15] (fun i wr => HlI J W DB KB q k vs kind most i wr) (fun i _ => most - (intOf i).toNat)
  case atStart => exact ⟨0, Nat.zero_le _, rfl, ⟨[], rfl, HJ1.out⟩, HST.out, fun p hp => by omega, HKB1.out, ⟨_, HQ1.out⟩, HZ1.out⟩
  case round =>
    obtain ⟨h, hh, rfl, ⟨pre, hpl, hJs⟩, hst, hno, hkb, ⟨v, hqv⟩, hz⟩ := hrel
    clear cM1
    by_cases hlt : h < most
    · have HX := Lib.hid (HNX.out DB h wr hst (by omega))
      have HSL := Lib.hid (StN.lt hst)
      have HJs := Lib.hid hJs
      have HNO := Lib.hid hno
      have HKs := Lib.hid hkb
      have HQs := Lib.hid hqv
      have HZs := Lib.hid hz
      have HPL := Lib.hid hpl
      clear hst hJs hno hkb hqv hz hpl
      gi_wp2_with fail
      refine ⟨by simp [Fence.wide], ?_⟩
      refine CallsIn.mono (callsIn_wide.2 HX.out) ?_
      rintro e w2 ⟨R, rc, V2, vc2, O2, oc2, I2, ic2, A2, ac2, B2, bn2, bc2, rfl, hr, hrn, hds, hg⟩
      have nK : KB ≠ DB := by have := HKD.out.1; omega
      have nQ : q ≠ DB := by have := HKD.out.2; omega
      have HP := Lib.hid (HPS.out DB h R rc V2 vc2 O2 oc2 I2 ic2 A2 ac2 B2 bn2 bc2 w2 hds hr (fun hA => by have := hrn hA; have := HSL.out; omega) (by omega))
      have HJ2 := Lib.hid (hJc pre wr w2 (some DB) HJs.out hg (fun r e => by cases e; exact Nat.le_refl _))
      have HK2 := Lib.hid (HKs.out.grown hg nK)
      have HQ2 := Lib.hid (HQs.out.grown hg nQ)
      have HZ2 := Lib.hid (Nat.le_trans HZs.out hg.size)
      have cK := HK2.out.cell (j := 0) (v := .int .i64 kind) rfl
      have HNK := Lib.hid nK
      have HNQ := Lib.hid nQ
      clear hr hrn hds hg nK nQ HX HJs HKs HQs HZs
      gi_wp2_with fail
      refine ⟨by simp [Fence.wide], ?_⟩
      refine CallsIn.mono (callsIn_wide.2 HP.out) ?_
      rintro e w3 ⟨rfl, hst, hrd, hc5, hg⟩
      have HST3 := Lib.hid hst
      have HR3 := Lib.hid hrd
      have HC5 : Hid (w3.drew.cell? ⟨DB, 5, none⟩ = some (.int .i64 ((h : Int) + 1))) := Lib.hid (by have := hc5; push_cast at this; exact this)
      have HJ3 := Lib.hid (hJc pre w2 w3 (some DB) HJ2.out hg (fun r e => by cases e; exact Nat.le_refl _))
      have HK3 := Lib.hid (HK2.out.grown hg HNK.out)
      have HQ3 := Lib.hid (HQ2.out.grown hg HNQ.out)
      have HZ3 := Lib.hid (Nat.le_trans HZ2.out hg.size)
      clear hst hrd hc5 hg cK HP HJ2 HK2 HQ2 HZ2
      obtain ⟨p, hp⟩ : ∃ p, p = okN kind vs k h := ⟨_, rfl⟩
      rw [← hp]
      have HOK := Lib.hid hp
      clear hp
      gi_wp2_with fail
      refine wpIn_nopanic ?_
      refine PI_start (fun W9 => W9.cell? ⟨DB, 5, none⟩ = some (.int .i64 ((h : Int) + 1))) 5 10 #[false, false, false, false, false, false, false, false, false, false] (by kernel_rfl) (by kernel_rfl) (by kernel_rfl) ?_
      refine PI_takeW 0 21 (.func (.yield l) #[] #[]) #[true, false, false, false, false, false, false, false, false, false] rfl rfl rfl (by kernel_rfl) (by kernel_rfl) (by kernel_rfl) (by kernel_rfl) (by decide) (fun _ _ _ h => h) ⟨Or.inl ⟨by rfl, fun W hS => by go_simp⟩, fun _ => rfl⟩ HC5.out ?_
      simp only [List.setIfInBounds_toArray, List.set_cons_zero, List.set_cons_succ]
      refine PI_takeW 1 22 (.pointer (some ⟨DB, 5, none⟩)) #[true, true, false, false, false, false, false, false, false, false] rfl rfl rfl (by kernel_rfl) (by kernel_rfl) (by kernel_rfl) (by kernel_rfl) (by decide) (fun _ _ _ h => h) ⟨Or.inl ⟨by rfl, fun W hS => by go_simp⟩, fun _ => rfl⟩ HC5.out ?_
      simp only [List.setIfInBounds_toArray, List.set_cons_zero, List.set_cons_succ]
      refine PI_takeT 2 23 (.int .i64 ((h : Int) + 1)) #[true, true, true, false, false, false, false, false, false, false] [] rfl rfl rfl (by kernel_rfl) (by kernel_rfl) (by kernel_rfl) (by kernel_rfl) (by kernel_rfl) (by kernel_rfl) (by kernel_rfl) (by decide) (fun _ _ _ h => h) ⟨Or.inl ⟨by rfl, fun W hS => by have s0 := hS; go_simp⟩, fun _ => rfl⟩ HC5.out ?_
      simp only [List.setIfInBounds_toArray, List.set_cons_zero, List.set_cons_succ]
      refine PI_takeW 3 24 (.slice R k rc) #[true, true, true, true, false, false, false, false, false, false] rfl rfl rfl (by kernel_rfl) (by kernel_rfl) (by kernel_rfl) (by kernel_rfl) (by decide) (fun _ _ _ h => h) ⟨Or.inl ⟨by rfl, fun W hS => by go_simp⟩, fun _ => rfl⟩ HC5.out ?_
      simp only [List.setIfInBounds_toArray, List.set_cons_zero, List.set_cons_succ]
      refine PI_oneS 4 #[true, true, true, true, true, false, false, false, false, false] rfl rfl (by kernel_rfl) rfl (fun K hK => ?_)
      refine operIn_w nofun ?_
      go_simp
      refine (Cr.clone_any R k rc (decN vs k h) w3.drew (Rdv.drew HR3.out) (by omega)).mono ?_
      rintro e w4 ⟨R4, c4, rfl, hO4, hB4⟩
      have HO4 := Lib.hid hO4
      have HB4 : Hid (Below w3.heap.size w3 w4) := Lib.hid ((Below.refl _ w3).drew.trans hB4)
      clear hO4 hB4
      refine hK _ _ (cell_below (w := w3) HC5.out HB4.out) ?_
      clear hK K
      obtain ⟨fn, tmps, assign, body, hy, hRD⟩ := hY pre (((h : Int) + 1), R4, c4) w4 (hJc.call HJ3.out HB4.out) ⟨by rw [HPL.out]; exact HN.out h hlt HNO.out, by rw [HPL.out], by rw [HPL.out]; exact Ownv.mono HO4.out HZ3.out⟩
      unfold encH at hy
      have HRD := Lib.hid hRD
      clear hRD
      refine PI_one 5 #[true, true, true, true, true, true, false, false, false, false] rfl rfl (by kernel_rfl) rfl (by kernel_rfl) (fun K hK => ?_)
      gi_wp2_with fail
      refine HRD.out.mono ?_
      rintro e W7 (⟨rfl, hJ7, hk7, hq7⟩ | ⟨rfl, hJx7⟩)
      · have hg4 : w3.heap.size ≤ blk R4 := by
          have hA : R4 ≠ none := own_some HO4.out (q := 0) (by omega)
          exact (Ownv.blk_of HO4.out hA).1
        have HST7 := Lib.hid (HKP.out w3 w4 W7 DB (h + 1) (blk R4) v HST3.out HB4.out hk7 hg4 HQ3.out)
        have HQ7 := Lib.hid (hq7 v (HQ3.out.below HB4.out))
        have HK7 := Lib.hid ((HK3.out.below HB4.out).kp hk7 (by have h1 := HQK.out; have h2 := HK3.out.lt; simp; omega))
        have HZ7 := Lib.hid (Nat.le_trans HZ3.out (Nat.le_trans HB4.out.size hk7.1))
        have HJ7 := Lib.hid hJ7
        clear hk7 hq7 hg4 hJ7
        dsimp only
        refine hK _ _ ?_
        clear hK K
        go_simp
        refine PI_oneY 6 27 (.bool false) #[true, true, true, true, true, true, true, false, false, false] rfl rfl rfl rfl (by kernel_rfl) (by kernel_rfl) ⟨Or.inl ⟨by rfl, fun W hS => by go_simp⟩, fun _ => rfl⟩ ?_
        simp only [List.setIfInBounds_toArray, List.set_cons_zero, List.set_cons_succ]
        refine PI_oneY 7 28 (.bool false) #[true, true, true, true, true, true, true, true, false, false] rfl rfl rfl rfl (by kernel_rfl) (by kernel_rfl) ⟨Or.inl ⟨by rfl, fun W hS => by go_simp⟩, fun _ => rfl⟩ ?_
        simp only [List.setIfInBounds_toArray, List.set_cons_zero, List.set_cons_succ]
        refine PI_oneY 8 29 (.bool p) #[true, true, true, true, true, true, true, true, true, false] rfl rfl rfl rfl (by kernel_rfl) (by kernel_rfl) ⟨Or.inl ⟨by rfl, fun W hS => by go_simp⟩, fun _ => rfl⟩ ?_
        simp only [List.setIfInBounds_toArray, List.set_cons_zero, List.set_cons_succ]
        refine PI_oneY 9 30 (.bool p) #[true, true, true, true, true, true, true, true, true, true] rfl rfl rfl rfl (by kernel_rfl) (by kernel_rfl) ⟨Or.inl ⟨by rfl, fun W hS => by go_simp⟩, fun _ => rfl⟩ ?_
        simp only [List.setIfInBounds_toArray, List.set_cons_zero, List.set_cons_succ]
        refine PI_done (by kernel_rfl) ?_ _
        refine noPanic_normal ?_
        cases p with
        | true =>
          have HF := Lib.hid (show HvQ N J Jx (.returned (.tuple #[])) W7 from ⟨⟨_, rfl⟩, .inl ⟨_, by rw [HN1.out h hlt HNO.out HOK.out.symm, List.length_append, HPL.out]; rfl, HJ7.out⟩⟩)
          gi_wp2
          go_end0
          exact HF.out
        | false =>
          gi_wp2
          go_roundw
          case rel => exact ⟨h + 1, by omega, by go_num, ⟨_, by rw [List.length_append, HPL.out]; rfl, HJ7.out⟩, HST7.out, lt_succ_cases HNO.out HOK.out.symm, HK7.out, HQ7.out, HZ7.out⟩
          case measure => simp [intOf]; omega
      · have HF := Lib.hid (show HvQ N J Jx (.returned (.tuple #[])) W7 from ⟨⟨_, rfl⟩, .inr ⟨_, by rw [List.length_append, HPL.out]; exact HN.out h hlt HNO.out, hJx7⟩⟩)
        clear hJx7
        dsimp only
        refine hK _ _ ?_
        clear hK K
        go_simp
        refine PI_oneY 6 27 (.bool true) #[true, true, true, true, true, true, true, false, false, false] rfl rfl rfl rfl (by kernel_rfl) (by kernel_rfl) ⟨Or.inl ⟨by rfl, fun W hS => by go_simp⟩, fun _ => rfl⟩ ?_
        simp only [List.setIfInBounds_toArray, List.set_cons_zero, List.set_cons_succ]
        refine PI_oneY 7 28 (.bool true) #[true, true, true, true, true, true, true, true, false, false] rfl rfl rfl rfl (by kernel_rfl) (by kernel_rfl) ⟨Or.inl ⟨by rfl, fun W hS => by go_simp⟩, fun _ => rfl⟩ ?_
        simp only [List.setIfInBounds_toArray, List.set_cons_zero, List.set_cons_succ]
        refine PI_oneY 8 29 (undef) #[true, true, true, true, true, true, true, true, true, false] rfl rfl rfl rfl (by kernel_rfl) (by kernel_rfl) ⟨Or.inr ⟨by rfl, rfl⟩, fun _ => rfl⟩ ?_
        simp only [List.setIfInBounds_toArray, List.set_cons_zero, List.set_cons_succ]
        refine PI_oneY 9 30 (.bool true) #[true, true, true, true, true, true, true, true, true, true] rfl rfl rfl rfl (by kernel_rfl) (by kernel_rfl) ⟨Or.inl ⟨by rfl, fun W hS => by go_simp⟩, fun _ => rfl⟩ ?_
        simp only [List.setIfInBounds_toArray, List.set_cons_zero, List.set_cons_succ]
        refine PI_done (by kernel_rfl) ?_ _
        refine noPanic_normal ?_
        gi_wp2
        go_end0
        exact HF.out
    · obtain rfl : h = most := by omega
      have HF := Lib.hid (show HvQ N J Jx (.returned (.tuple #[])) wr from ⟨⟨_, rfl⟩, .inl ⟨pre, by rw [hpl, HN2.out hno], hJs⟩⟩)
      gi_wp2
      go_end0
      exact HF.out
end Go.Proofs.YtpdalbckmfadbaaGreat

namespace Go.Proofs.YtpdalbckmfadbaaGreat
open Go.RowKit Go.Shelf
set_option linter.unusedVariables false
attribute [local go_sem] Oper.semAt_some
/-- made since w -/
def Fr (w : World) (A : Option Addr) : Prop := A ≠ none → w.heap.size ≤ blk A
def BgXf (k : Nat) (vs : List Int) (w w1 : World) (v6 v7 : Value) (wx : World) : Prop :=
  v7 = .int .i64 0 ∧ ∃ D V vc O oc I ic A ac, v6 = .pointer (some ⟨D, 0, none⟩) ∧ DS wx D k vs (List.replicate k 0) [] 0 V vc O oc I ic A ac none 0 0 ∧ w1.heap.size ≤ D ∧ Below w1.heap.size w1 wx ∧ Fr w V ∧ Fr w O ∧ Fr w I ∧ Fr w A
def BgPf (k : Nat) (vs : List Int) (w : World) (e : Ending) (w' : World) : Prop :=
  ∃ D V vc O oc I ic A ac, e = .returned (.tuple #[.pointer (some ⟨D, 0, none⟩), .int .i64 0]) ∧ DS w' D k vs (List.replicate k 0) [] 0 V vc O oc I ic A ac none 0 0 ∧ w.heap.size ≤ D ∧ Below w.heap.size w w' ∧ Fr w V ∧ Fr w O ∧ Fr w I ∧ Fr w A
set_option maxRecDepth 100000 in
set_option maxHeartbeats 2000000 in
theorem begun_okf (S : Option Addr) (k cs : Nat) (vs : List Int) (kind most : Int) (w : World) (h : Rd .i64 w S (3 * (k + 4)) cs vs) (hv : Tu.validK (k : Int) = true) (hk : 0 ≤ kind ∧ kind ≤ 4) (hm : 1 ≤ most ∧ most ≤ 64) (hs : SoftB vs = true) :
    Calls Tryz.prog 49 #[.slice S (3 * (k + 4)) cs, .int .i64 kind, .int .i64 most] w (BgPf k vs w) := by
  have hkb := Tu.valid_bd hv
  have hk0 : 0 < k := by omega
  have hk9 : k ≤ 6144 := by omega
  have hvl : (((3 * (k + 4) : Nat) : Int)) / 3 - 4 = (k : Int) := by omega
  have HSZ := Lib.hid (fun W => size_any S (3 * (k + 4)) cs W (by omega))
  rw [hvl] at HSZ
  have HV := Lib.hid (fun W => Tu.valid_any (k : Int) W)
  rw [hv] at HV
  have HC := Lib.hid (fun W h => bcont_any S (3 * (k + 4)) cs vs W h)
  rw [hs, Bool.not_true] at HC
  have HOR := Lib.hid (fun W => Tu.order_any (k : Int) W)
  have HIN := Lib.hid (fun W => Tu.inverse_any (k : Int) W)
  rw [show Tu.permE (k : Int) = 0 from by unfold Tu.permE; rw [if_pos hv], show Tu.ordR (k : Int) = Tu.ordL k from by unfold Tu.ordR; rw [if_pos hv, Int.toNat_natCast]] at HOR
  rw [show Tu.permE (k : Int) = 0 from by unfold Tu.permE; rw [if_pos hv], show Tu.invR (k : Int) = Tu.invL k from by unfold Tu.invR; rw [if_pos hv, Int.toNat_natCast]] at HIN
  have HH := Lib.hid h
  have a1 : ((3 * (k + 4) : Nat) : Int).tmod 3 = 0 := by rw [Int.tmod_eq_emod_of_nonneg (by omega)]; omega
  have a2 : ((3 * (k + 4) : Nat) : Int) % 3 = 0 := by omega
  have b1 : decide (kind < 0) = false := by simp; omega
  have b2 : decide (kind > 4) = false := by simp; omega
  have b3 : decide (most < 1) = false := by simp; omega
  have b4 : decide (most > 64) = false := by simp; omega
  clear hv h hs hkb
  go_enter Tryz.func49, Tryz.ntmps49
  go_wp2_with fail
  go_step3
  go_wp2_with (first
    | (go_at_call 86; refine (HSZ.out _).mono ?_; rintro e w0 ⟨rfl, rfl⟩)
    | (go_at_call 27; refine (HV.out _).mono ?_; rintro e w0 ⟨rfl, hB0⟩; have HB0 := Lib.hid hB0; have HH0 := Lib.hid (Rdv.below HH.out hB0); clear hB0)
    | (go_at_call 80; refine (HC.out _ HH0.out).mono ?_; rintro e w1 ⟨rfl, rfl⟩)
    | (go_at_call 88; refine (HOR.out _).mono ?_; rintro e w2 ⟨O, on, rfl, hO, hB2⟩; have hon := Rd.len (Own.rd hO); rw [Tu.ordL_len] at hon; subst hon; have HOf : Hid (Fr w O) := Lib.hid (fun hA => Nat.le_trans HB0.out.size (Ownv.blk_of hO hA).1); have HO2 := Lib.hid (Own.rd hO); have HH2 := Lib.hid (Rdv.below HH0.out hB2); have HB2 := Lib.hid (HB0.out.trans (hB2.mono HB0.out.size)); clear hO hB2)
    | (go_at_call 89; refine (HIN.out _).mono ?_; rintro e w1 ⟨I, im, rfl, hI, hB1⟩; have him := Rd.len (Own.rd hI); rw [inv_len] at him; subst him; have HIf : Hid (Fr w I) := Lib.hid (fun hA => Nat.le_trans HB2.out.size (Ownv.blk_of hI hA).1); have HI1 := Lib.hid (Own.rd hI); have HO1 := Lib.hid (Rdv.below HO2.out hB1); have HH1 := Lib.hid (Rdv.below HH2.out hB1); have HB1 := Lib.hid (HB2.out.trans (hB1.mono HB2.out.size)); clear hI hB1))
  have HCL := Lib.hid (fun W (hW : Below w1.heap.size w1 W) => cloneI_any S (3 * (k + 4)) cs vs W (Rdv.below HH1.out hW) (by omega))
  have HB1z := Lib.hid HB1.out
  have HS : Hid (Below w1.heap.size w1 w1.drew) := Lib.hid (Below.refl _ _).drew
  clear HOR HIN HC HV HSZ a1 a2 b1 b2 b3 b4 HH HH0 HH2 HO2 HB0 HB2
  go_cut [6, 7] from 50 to 57 (fun v6 v7 wx => BgXf k vs w w1 v6 v7 wx)
  case first =>
    refine Q_start (fun W => Below w1.heap.size w1 W) 7 10 ?_
    refine Q_W 0 50 1 (.slice S (3 * (k + 4)) cs) rfl HS.out ?_
    simp only [z0, z1, z2]
    refine Q_W 2 52 5 (.slice O k k) rfl HS.out ?_
    simp only [z0, z1, z2]
    refine Q_W 3 53 13 (.slice I k k) rfl HS.out ?_
    simp only [z0, z1, z2]
    refine Q_W 4 54 29 (.int .i64 (k : Int)) rfl HS.out ?_
    simp only [z0, z1, z2]
    generalize w1.drew = wd at *
    refine Q_2S 1 5 31 61 rfl rfl (fun K hK => ?_) (fun K hK => ?_)
    · go_simp
      refine (HCL.out wd HS.out).mono ?_
      rintro e wa ⟨V, vc, rfl, hV, hB1⟩
      have HV := Lib.hid hV
      have HVf : Hid (Fr w V) := Lib.hid (fun h9 => Nat.le_trans HB1z.out.size (Nat.le_trans HS.out.size (Ownv.blk_of hV h9).1))
      have HSc := Lib.hid (HS.out.trans (hB1.mono HS.out.size))
      clear hB1 hV
      refine hK _ _ HSc.out ?_
      clear hK K
      refine Q_1S 5 63 rfl (fun K hK => ?_)
      refine wp_mkd 55 (.tmp 54) (.tmp 54) 34 rfl rfl el22 rfl rfl (by omega) (by unfold maxLen; omega) ?_
      intro A wb hA hB1 hA0
      have HA : Hid (Own .i64 3 wb wa.heap.size A k k (List.replicate k 0)) := Lib.hid (by unfold Own; simpa using hA)
      have HAf : Hid (Fr w A) := Lib.hid (fun h9 => Nat.le_trans HB1z.out.size (Nat.le_trans HSc.out.size (Ownv.blk_of HA.out h9).1))
      have HV := Lib.hid (Ownv.below HV.out hB1)
      have HScm := Lib.hid (HSc.out.trans (hB1.mono HSc.out.size))
      clear hB1 hA hA0
      refine hK _ _ HScm.out ?_
      clear hK K
      simp only [z0, z1, z2]
      refine Q_W 6 56 127 (.agg #[.slice V (3 * (k + 4)) vc, .slice O k k, .slice I k k, .slice A k k, .slice none 0 0, .int .i64 0]) rfl HScm.out ?_
      simp only [z0, z1, z2]
      refine Q_1 7 255 rfl (fun K hK => ?_)
      go_simp
      have HF : Hid (BgXf k vs w w1 (.pointer (some ⟨wb.heap.size, 0, none⟩)) (.int .i64 0) (wb.alloc (.cells #[.slice V (3 * (k + 4)) vc, .slice O k k, .slice I k k, .slice A k k, .slice none 0 0, .int .i64 0] 97))) := Lib.hid ⟨rfl, wb.heap.size, V, vc, O, k, I, k, A, k, rfl, ⟨Blk.new wb [.slice V (3 * (k + 4)) vc, .slice O k k, .slice I k k, .slice A k k, .slice none 0 0, .int .i64 0] 97 rfl, Rdv.alloc (Own.rd HV.out) _, Rdv.alloc (Rdv.below HO1.out HScm.out) _, Rdv.alloc (Rdv.below HI1.out HScm.out) _, Rdv.alloc (Own.rd HA.out) _, Rd.nilv .u8 _, own_ne_top HV.out, rd_ne_top (Rdv.below HO1.out HScm.out) hk0, rd_ne_top (Rdv.below HI1.out HScm.out) hk0, own_ne_top HA.out, fun h => absurd rfl h⟩, HScm.out.size, HScm.out.alloc HScm.out.size _, HVf.out, HOf.out, HIf.out, HAf.out⟩
      refine hK _ _ ?_
      clear hK K
      refine Q_1 8 511 rfl (fun K hK => ?_)
      go_simp
      refine hK _ _ ?_
      clear hK K
      refine Q_1 9 1023 rfl (fun K hK => ?_)
      go_simp
      refine hK _ _ ?_
      clear hK K
      refine Q_end ?_
      go_wp2_with fail
      go_meet
      exact HF.out
    · refine wp_mkd 55 (.tmp 54) (.tmp 54) 34 rfl rfl el22 rfl rfl (by omega) (by unfold maxLen; omega) ?_
      intro A wa hA hB1 hA0
      have HA : Hid (Own .i64 3 wa wd.heap.size A k k (List.replicate k 0)) := Lib.hid (by unfold Own; simpa using hA)
      have HAf : Hid (Fr w A) := Lib.hid (fun h9 => Nat.le_trans HB1z.out.size (Nat.le_trans HS.out.size (Ownv.blk_of HA.out h9).1))
      have HSm := Lib.hid (HS.out.trans (hB1.mono HS.out.size))
      clear hB1 hA hA0
      refine hK _ _ HSm.out ?_
      clear hK K
      simp only [z0, z1, z2]
      refine Q_1S 1 63 rfl (fun K hK => ?_)
      go_simp
      refine (HCL.out wa HSm.out).mono ?_
      rintro e wb ⟨V, vc, rfl, hV, hB1⟩
      have HV := Lib.hid hV
      have HVf : Hid (Fr w V) := Lib.hid (fun h9 => Nat.le_trans HB1z.out.size (Nat.le_trans HSm.out.size (Ownv.blk_of hV h9).1))
      have HA := Lib.hid (Ownv.below HA.out hB1)
      have HSmc := Lib.hid (HSm.out.trans (hB1.mono HSm.out.size))
      clear hB1 hV
      refine hK _ _ HSmc.out ?_
      clear hK K
      refine Q_W 6 56 127 (.agg #[.slice V (3 * (k + 4)) vc, .slice O k k, .slice I k k, .slice A k k, .slice none 0 0, .int .i64 0]) rfl HSmc.out ?_
      simp only [z0, z1, z2]
      refine Q_1 7 255 rfl (fun K hK => ?_)
      go_simp
      have HF : Hid (BgXf k vs w w1 (.pointer (some ⟨wb.heap.size, 0, none⟩)) (.int .i64 0) (wb.alloc (.cells #[.slice V (3 * (k + 4)) vc, .slice O k k, .slice I k k, .slice A k k, .slice none 0 0, .int .i64 0] 97))) := Lib.hid ⟨rfl, wb.heap.size, V, vc, O, k, I, k, A, k, rfl, ⟨Blk.new wb [.slice V (3 * (k + 4)) vc, .slice O k k, .slice I k k, .slice A k k, .slice none 0 0, .int .i64 0] 97 rfl, Rdv.alloc (Own.rd HV.out) _, Rdv.alloc (Rdv.below HO1.out HSmc.out) _, Rdv.alloc (Rdv.below HI1.out HSmc.out) _, Rdv.alloc (Own.rd HA.out) _, Rd.nilv .u8 _, own_ne_top HV.out, rd_ne_top (Rdv.below HO1.out HSmc.out) hk0, rd_ne_top (Rdv.below HI1.out HSmc.out) hk0, own_ne_top HA.out, fun h => absurd rfl h⟩, HSmc.out.size, HSmc.out.alloc HSmc.out.size _, HVf.out, HOf.out, HIf.out, HAf.out⟩
      refine hK _ _ ?_
      clear hK K
      refine Q_1 8 511 rfl (fun K hK => ?_)
      go_simp
      refine hK _ _ ?_
      clear hK K
      refine Q_1 9 1023 rfl (fun K hK => ?_)
      go_simp
      refine hK _ _ ?_
      clear hK K
      refine Q_end ?_
      go_wp2_with fail
      go_meet
      exact HF.out
  case rest =>
    obtain ⟨rfl, D, V, vc, O2, oc, I2, ic, A, ac, rfl, hDS, hD, hB, f1, f2, f3, f4⟩ := hcut
    have HFR := Lib.hid (And.intro f1 (And.intro f2 (And.intro f3 f4)))
    have HDS := Lib.hid hDS
    have HDl := Lib.hid (Nat.le_trans HB1.out.size hD)
    have HBF := Lib.hid (HB1.out.trans (hB.mono HB1.out.size))
    clear hDS hD hB f1 f2 f3 f4
    go_wp2
    rw [Exit.noGoto_ret]
    go_ret2
    exact ⟨D, V, vc, O2, oc, I2, ic, A, ac, rfl, HDS.out, HDl.out, HBF.out, HFR.out.1, HFR.out.2.1, HFR.out.2.2.1, HFR.out.2.2.2⟩

set_option maxRecDepth 100000 in
theorem halves_bad (l EB PB MB KB : Nat) (E : Int) (hE0 : E ≠ 0) (W : World) (hE : Blk W EB 27 [.int .i64 E]) (J Jx : List (Int × Option Addr × Nat) → World → Prop) (h0 : J [] W) :
    CallsIn Fence.wide 2 Tryz.prog 59 #[.func (.yield l) #[] #[], .pointer (some ⟨EB, 0, none⟩), .pointer (some ⟨PB, 0, none⟩), .pointer (some ⟨MB, 0, none⟩), .pointer (some ⟨KB, 0, none⟩)] W (HvQ 0 J Jx) := by
  have cE := hE.cell (j := 0) (v := .int .i64 E) rfl
  have qE : (E != 0) = true := bne_t hE0
  have HF := Lib.hid (show HvQ 0 J Jx (.returned (.tuple #[])) W from ⟨⟨_, rfl⟩, .inl ⟨[], rfl, h0⟩⟩)
  clear hE h0
  refine callsIn_of_wp Tryz.func59 rfl trivial ?_ rfl
  simp only [Tryz.ntmps59, List.size_toArray, List.length_cons, List.length_nil, Nat.reduceAdd, Nat.reduceSub, Array.replicate_succ, Array.replicate_zero, List.push_toArray, List.append_toArray, List.nil_append, List.cons_append]
  refine wpIn_scope_straight rfl ?_
  gi_wp2
  go_end0
  exact HF.out
/-- THE CONTRACT of what iterate.Halves returns -/
structure ItH (vs : List Int) (k N B0 : Nat) (lb : Array Value) (Ok : Nat → Prop) (Fw : World → Prop) : Prop where
  seq : ∀ q v w, Ok q → Blk w q 3 [v] → Fw w → SeqG 2 59 lb (encH k) (KpQ q) (fun xs => xs.length = N) (fun pre => pre.length ≤ N) (OkH vs k N) w
  kp : ∀ q W W', Ok q → Fw W → KpB [q] W W' → Fw W'
  below : ∀ W W', Fw W → Below W.heap.size W W' → Fw W'
  low : ∀ q, q < B0 → Ok q
def HvAll (vs : List Int) (k N : Nat) (w : World) (e : Ending) (w' : World) : Prop := ∃ (lb : Array Value) (Ok : Nat → Prop) (Fw : World → Prop), e = .returned (.func (.func 59) #[] lb) ∧ ItH vs k N w.heap.size lb Ok Fw ∧ Fw w' ∧ (∀ q, w'.heap.size ≤ q → Ok q) ∧ Below w.heap.size w w'
/-- what the iterator reads, where nothing is wrong -/
structure HvF (k : Nat) (vs : List Int) (kind : Int) (most EB PB MB KB D0 : Nat) (V : Option Addr) (vc : Nat) (O : Option Addr) (oc : Nat) (I : Option Addr) (ic : Nat) (A : Option Addr) (ac : Nat) (W : World) : Prop where
  e : Blk W EB 27 [.int .i64 0]
  p : Blk W PB 90 [.pointer (some ⟨D0, 0, none⟩)]
  m : Blk W MB 3 [.int .i64 (most : Int)]
  kb : Blk W KB 24 [.int .i64 kind]
  d : DS W D0 k vs (List.replicate k 0) [] 0 V vc O oc I ic A ac none 0 0
def In9 (B0 B1 b : Nat) : Prop := B0 ≤ b ∧ b < B1
def InA (B0 B1 : Nat) (A : Option Addr) : Prop := ∀ a, A = some a → In9 B0 B1 a.block
theorem inA_of {kd : IntKind} {W : World} {A : Option Addr} {n c : Nat} {xs : List Int} {B0 : Nat} (h : Rd kd W A n c xs) (hn : 0 < n) (hf : A ≠ none → B0 ≤ blk A) : InA B0 W.heap.size A := fun a ha => ⟨by have := hf (by rw [ha]; simp); rw [ha] at this; exact this, h.lt (by have := Rdv.le h; omega) a ha⟩
theorem HvF.kp {k : Nat} {vs : List Int} {kind : Int} {most EB PB MB KB D0 : Nat} {V : Option Addr} {vc : Nat} {O : Option Addr} {oc : Nat} {I : Option Addr} {ic : Nat} {A : Option Addr} {ac : Nat} {W W' : World} {B0 B1 q : Nat} (h : HvF k vs kind most EB PB MB KB D0 V vc O oc I ic A ac W) (hq : q < B0 ∨ B1 ≤ q)
    (hb : (In9 B0 B1 EB ∧ In9 B0 B1 PB ∧ In9 B0 B1 MB ∧ In9 B0 B1 KB ∧ In9 B0 B1 D0) ∧ InA B0 B1 V ∧ InA B0 B1 O ∧ InA B0 B1 I ∧ InA B0 B1 A) (hk : KpB [q] W W') : HvF k vs kind most EB PB MB KB D0 V vc O oc I ic A ac W' := by
  obtain ⟨⟨⟨e1, e2⟩, ⟨p1, p2⟩, ⟨m1, m2⟩, ⟨k1, k2⟩, ⟨d1, d2⟩⟩, hV, hO, hI, hA⟩ := hb
  have row : ∀ {X : Option Addr} {m c : Nat} {us : List Int}, InA B0 B1 X → Rd .i64 W X m c us → Rd .i64 W' X m c us := fun {X m c us} hx h => Rdv.kp h hk (fun a ha => by have := hx a ha; unfold In9 at this; simp; omega)
  exact ⟨h.e.kp hk (by simp; omega), h.p.kp hk (by simp; omega), h.m.kp hk (by simp; omega), h.kb.kp hk (by simp; omega), ⟨h.d.b.kp hk (by simp; omega), row hV h.d.v, row hO h.d.o, row hI h.d.i, row hA h.d.a, Rd.nilv .u8 _, h.d.nv, h.d.no, h.d.ni, h.d.na, h.d.np⟩⟩
theorem HvF.below {k : Nat} {vs : List Int} {kind : Int} {most EB PB MB KB D0 : Nat} {V : Option Addr} {vc : Nat} {O : Option Addr} {oc : Nat} {I : Option Addr} {ic : Nat} {A : Option Addr} {ac : Nat} {W W' : World} (h : HvF k vs kind most EB PB MB KB D0 V vc O oc I ic A ac W) (hB : Below W.heap.size W W') : HvF k vs kind most EB PB MB KB D0 V vc O oc I ic A ac W' :=
  ⟨h.e.below hB, h.p.below hB, h.m.below hB, h.kb.below hB, h.d.below hB⟩
theorem halves_it (k u : Nat) (vs : List Int) (kind : Int) (most EB PB MB KB D0 : Nat) (V : Option Addr) (vc : Nat) (O : Option Addr) (oc : Nat) (I : Option Addr) (ic : Nat) (A : Option Addr) (ac : Nat) (B0 B1 : Nat)
    (hu : k = Tu.szK u) (hkd : 0 ≤ kind ∧ kind ≤ 4) (hm : 1 ≤ most ∧ most ≤ 64) (hs : SoftB vs = true)
    (hb : (In9 B0 B1 EB ∧ In9 B0 B1 PB ∧ In9 B0 B1 MB ∧ In9 B0 B1 KB ∧ In9 B0 B1 D0) ∧ InA B0 B1 V ∧ InA B0 B1 O ∧ InA B0 B1 I ∧ InA B0 B1 A) :
    ItH vs k (nHv vs k kind most) B0 #[.pointer (some ⟨EB, 0, none⟩), .pointer (some ⟨PB, 0, none⟩), .pointer (some ⟨MB, 0, none⟩), .pointer (some ⟨KB, 0, none⟩)] (fun q => q < B0 ∨ B1 ≤ q) (HvF k vs kind most EB PB MB KB D0 V vc O oc I ic A ac) where
  seq := fun q v w hO hq hF l J Jx W hB hJ hJx hY h0 =>
    have F := hF.below hB
    halves_in l k u vs kind most EB PB MB KB D0 q V vc O oc I ic A ac v W hu hkd hm hs F.e F.p F.m F.kb F.d (hq.below hB) (by have := hb.1.2.2.2.1; unfold In9 at this; omega) J Jx hJ hJx hY h0
  kp := fun q W W' hO hF hk => hF.kp hO hb hk
  below := fun W W' hF hB => hF.below hB
  low := fun q hq => .inl hq
theorem bad_it (vs : List Int) (k EB PB MB KB B0 B1 : Nat) (E : Int) (hE0 : E ≠ 0) (hb : In9 B0 B1 EB) :
    ItH vs k 0 B0 #[.pointer (some ⟨EB, 0, none⟩), .pointer (some ⟨PB, 0, none⟩), .pointer (some ⟨MB, 0, none⟩), .pointer (some ⟨KB, 0, none⟩)] (fun q => q < B0 ∨ B1 ≤ q) (fun W => Blk W EB 27 [.int .i64 E]) where
  seq := fun q v w hO hq hF l J Jx W hB hJ hJx hY h0 => (halves_bad l EB PB MB KB E hE0 W (hF.below hB) J Jx h0).mono fun e W' h => ⟨h.1, h.2.elim (fun ⟨xs, h1, h2⟩ => .inl ⟨xs, h1, h2⟩) (fun ⟨xs, h1, h2⟩ => .inr ⟨xs, h1, h2⟩)⟩
  kp := fun q W W' hO hF hk => hF.kp hk (by unfold In9 at hb; simp; omega)
  below := fun W W' hF hB => hF.below hB
  low := fun q hq => .inl hq
/-- the number of halves, for any arguments -/
noncomputable def nHA (vs : List Int) (kind most : Int) : Nat := if wrE vs kind most = 0 then nHv vs (kOf vs) kind most.toNat else 0
set_option maxRecDepth 100000 in
set_option maxHeartbeats 1000000 in
theorem halves_all (S : Option Addr) (n cs : Nat) (vs : List Int) (kind most : Int) (w : World) (h : Rd .i64 w S n cs vs) (hn : n ≤ 600) :
    Calls Tryz.prog 22 #[.slice S n cs, .int .i64 kind, .int .i64 most] w (HvAll vs (kOf vs) (nHA vs kind most) w) := by
  have hmf : ∀ (fn : Fn) (first cap : Array Value) (w : World), (Instr.makeFunc fn first cap).run Tryz.prog w = .ok (.func fn first cap) w := fun _ _ _ _ => rfl
  have hl := Rd.len h
  obtain ⟨W0, hW0⟩ : ∃ W0, W0 = (w.alloc (.cells #[.int .i64 kind] 24)).alloc (.cells #[.int .i64 most] 3) := ⟨_, rfl⟩
  have hb0 : Below w.heap.size w W0 := by rw [hW0]; exact ((Below.refl _ w).alloc (Nat.le_refl _) _).alloc (by simp) _
  have xK : Blk W0 w.heap.size 24 [.int .i64 kind] := by rw [hW0]; exact (Blk.new w [.int .i64 kind] _ rfl).alloc _
  have xM : Blk W0 (w.heap.size + 1) 3 [.int .i64 most] := by rw [hW0]; exact Blk.new (w.alloc _) [.int .i64 most] 3 (by simp)
  have cK := xK.cell (j := 0) (v := .int .i64 kind) rfl
  have cM := xM.cell (j := 0) (v := .int .i64 most) rfl
  have HR0 := Lib.hid (Rdv.below h hb0)
  have HW0 := Lib.hid hW0
  have HXK := Lib.hid xK
  have HXM := Lib.hid xM
  have HB0 := Lib.hid hb0
  have ltM := Lib.hid xM.lt
  clear xK xM hb0 h
  by_cases hE : wrE vs kind most = 0
  · obtain ⟨h3, hv, hk, hm, hs⟩ := wrE_zero hE
    have hkb := Tu.valid_bd hv
    have hkn : ((vs.length : Int) / 3 - 4) = ((kOf vs : Nat) : Int) := by unfold kOf; omega
    rw [hkn] at hv hkb
    have hn3 : n = 3 * (kOf vs + 4) := by omega
    obtain ⟨u, hu⟩ := valid_szK hv (by unfold kOf; omega)
    obtain ⟨m, rfl⟩ := Int.eq_ofNat_of_zero_le (show 0 ≤ most by omega)
    have hm9 : 1 ≤ m ∧ m ≤ 64 := by omega
    have hnn : nHA vs kind (m : Int) = nHv vs (kOf vs) kind m := by unfold nHA; rw [if_pos hE, Int.toNat_natCast]
    have HBG := Lib.hid (by have h9 := HR0.out; rw [hn3] at h9; exact begun_okf S (kOf vs) cs vs kind (m : Int) W0 h9 hv hk (by omega) hs)
    rw [← hn3] at HBG
    have hk2 : 40 ≤ kOf vs := by have := Tu.szK_bd u; rw [← hu] at this; omega
    have HIT := Lib.hid (fun EB PB MB KB D0 V vc O oc I ic A ac B0 B1 hb => halves_it (kOf vs) u vs kind m EB PB MB KB D0 V vc O oc I ic A ac B0 B1 hu hk hm9 hs hb)
    rw [hnn]
    have HN3 := Lib.hid hn3
    clear hE h3 hv hm hs hkb hkn hu hm9 hnn hl hn3
    go_enter Tryz.func22, Tryz.ntmps22
    go_wp2_with fail
    rw [← HW0.out]
    try clear HW0
    go_wp2_with fail
    refine HBG.out.mono ?_
    rintro e w1 ⟨D, V, vc, O, oc, I, ic, A, ac, rfl, hDS, hD, hB, f1, f2, f3, f4⟩
    have HDS := Lib.hid hDS
    have HFR := Lib.hid (And.intro hD (And.intro f1 (And.intro f2 (And.intro f3 f4))))
    have HB1 := Lib.hid hB
    clear hDS hD hB f1 f2 f3 f4
    go_wp2_with fail
    have hq9 : Below w1.heap.size w1 ((w1.alloc (.cells #[.pointer (some ⟨D, 0, none⟩)] 90)).alloc (.cells #[.int .i64 0] 27)) := ((Below.refl _ w1).alloc (Nat.le_refl _) _).alloc (by simp) _
    have xE : Blk ((w1.alloc (.cells #[.pointer (some ⟨D, 0, none⟩)] 90)).alloc (.cells #[.int .i64 0] 27)) (w1.heap.size + 1) 27 [.int .i64 0] := Blk.new (w1.alloc _) [.int .i64 0] _ (by simp)
    have xP : Blk ((w1.alloc (.cells #[.pointer (some ⟨D, 0, none⟩)] 90)).alloc (.cells #[.int .i64 0] 27)) w1.heap.size 90 [.pointer (some ⟨D, 0, none⟩)] := (Blk.new w1 [.pointer (some ⟨D, 0, none⟩)] _ rfl).alloc _
    generalize (w1.alloc (.cells #[.pointer (some ⟨D, 0, none⟩)] 90)).alloc (.cells #[.int .i64 0] 27) = W9 at *
    have hFw : HvF (kOf vs) vs kind m (w1.heap.size + 1) w1.heap.size (w.heap.size + 1) w.heap.size D V vc O oc I ic A ac W9 := ⟨xE, xP, (HXM.out.below HB1.out).below hq9, (HXK.out.below HB1.out).below hq9, HDS.out.below hq9⟩
    have HFW := Lib.hid hFw
    have z1 := HB0.out.size
    have z2 := HB1.out.size
    have z3 := xE.lt
    have z4 := hFw.d.b.lt
    have z5 := ltM.out
    have z6 := HFR.out.1
    have up : ∀ {X : Option Addr}, Fr W0 X → X ≠ none → w.heap.size ≤ blk X := fun h hA => Nat.le_trans z1 (h hA)
    have HI9 := Lib.hid (HIT.out (w1.heap.size + 1) w1.heap.size (w.heap.size + 1) w.heap.size D V vc O oc I ic A ac w.heap.size W9.heap.size ⟨⟨⟨by omega, by omega⟩, ⟨by omega, by omega⟩, ⟨by omega, by omega⟩, ⟨by omega, by omega⟩, ⟨by omega, by omega⟩⟩, inA_of hFw.d.v (by omega) (up HFR.out.2.1), inA_of hFw.d.o (by omega) (up HFR.out.2.2.1), inA_of hFw.d.i (by omega) (up HFR.out.2.2.2.1), inA_of hFw.d.a (by omega) (up HFR.out.2.2.2.2)⟩)
    have HBX := Lib.hid (HB0.out.trans ((HB1.out.trans (hq9.mono HB1.out.size)).mono HB0.out.size))
    clear hq9 xE xP hFw up z1 z2 z3 z4 z5 z6
    go_ret
    exact ⟨_, _, _, rfl, HI9.out, HFW.out, fun q hq => .inr hq, HBX.out⟩
  · have hnn : nHA vs kind most = 0 := by unfold nHA; rw [if_neg hE]
    rw [hnn]
    have HBG : ∃ E : Int, E ≠ 0 ∧ Calls Tryz.prog 49 #[.slice S n cs, .int .i64 kind, .int .i64 most] W0 fun e w' => e = .returned (.tuple #[.pointer none, .int .i64 E]) ∧ Below W0.heap.size W0 w' := by
      by_cases hc : vs.length % 3 ≠ 0 ∨ Tu.validK ((vs.length : Int) / 3 - 4) = false ∨ kind < 0 ∨ 4 < kind ∨ most < 1 ∨ 64 < most
      · exact ⟨2, by decide, begun_bad S n cs vs kind most W0 HR0.out (by omega) hc⟩
      · by_cases hs : SoftB vs = true
        · exact absurd (by unfold wrE; rw [if_neg hc, if_pos hs]) hE
        · refine ⟨6, by decide, begun_soft S n cs vs kind most W0 HR0.out (by omega) (by omega) ?_ (by omega) (by omega) (by simpa using hs)⟩
          rw [← hl]
          cases hv : Tu.validK ((vs.length : Int) / 3 - 4) with
          | true => rfl
          | false => exact absurd (.inr (.inl hv)) hc
    obtain ⟨E, hE0, hcall⟩ := HBG
    have HC := Lib.hid hcall
    have HE0 := Lib.hid hE0
    clear hcall hE0 hE hl hnn
    go_enter Tryz.func22, Tryz.ntmps22
    go_wp2_with fail
    rw [← HW0.out]
    try clear HW0
    go_wp2_with fail
    refine HC.out.mono ?_
    rintro e w1 ⟨rfl, hB⟩
    have HB1 := Lib.hid hB
    clear hB
    go_wp2_with fail
    have hq9 : Below w1.heap.size w1 ((w1.alloc (.cells #[.pointer none] 90)).alloc (.cells #[.int .i64 E] 27)) := ((Below.refl _ w1).alloc (Nat.le_refl _) _).alloc (by simp) _
    have xE : Blk ((w1.alloc (.cells #[.pointer none] 90)).alloc (.cells #[.int .i64 E] 27)) (w1.heap.size + 1) 27 [.int .i64 E] := Blk.new (w1.alloc _) [.int .i64 E] _ (by simp)
    generalize (w1.alloc (.cells #[.pointer none] 90)).alloc (.cells #[.int .i64 E] 27) = W9 at *
    have HXE := Lib.hid xE
    have z1 := HB0.out.size
    have z2 := HB1.out.size
    have z3 := xE.lt
    have HI9 := Lib.hid (bad_it vs (kOf vs) (w1.heap.size + 1) w1.heap.size (w.heap.size + 1) w.heap.size w.heap.size W9.heap.size E HE0.out ⟨by omega, z3⟩)
    have HBX := Lib.hid (HB0.out.trans ((HB1.out.trans (hq9.mono HB1.out.size)).mono HB0.out.size))
    clear hq9 xE z1 z2 z3
    go_ret
    exact ⟨_, _, _, rfl, HI9.out, HXE.out, fun q hq => .inr hq, HBX.out⟩
end Go.Proofs.YtpdalbckmfadbaaGreat

