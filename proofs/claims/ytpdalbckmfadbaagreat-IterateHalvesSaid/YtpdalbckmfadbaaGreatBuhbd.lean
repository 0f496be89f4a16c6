/-
  Bundle of the texts Sf. Conditions: none.
-/
import Derived.Test.YtpdalbckmfadbaaGreatBuhbc
namespace Go.Proofs.YtpdalbckmfadbaaGreat
open Go.RowKit Go.Shelf
set_option linter.unusedVariables false
attribute [local go_sem] Oper.semAt_some
set_option maxRecDepth 100000 in
set_option maxHeartbeats 8000000 in
theorem hlaw_ok (S : Option Addr) (n cs : Nat) (vs : List Int) (kind most a3 : Int) (w : World) (hx : Rd .i64 w S n cs vs) (hv3 : -9223372036854775808 ≤ a3 ∧ a3 ≤ 9223372036854775807) (hn : n ≤ 600) (hg : most ≤ 8) (hE : wrE vs kind most = 0) :
    Calls Tryz.prog 5 #[.slice S n cs, .int .i64 kind, .int .i64 most, .int .i64 a3] w fun e w' => e = .returned (.bool true) ∧ Below w.heap.size w w' := by
  have HV3 := Lib.hid hv3
  clear hv3
  obtain ⟨h3, hv, hk, hm, hs⟩ := wrE_zero hE
  have hl := Rd.len hx
  have hkb := Tu.valid_bd hv
  have hkn : ((vs.length : Int) / 3 - 4) = ((kOf vs : Nat) : Int) := by unfold kOf; omega
  rw [hkn] at hv hkb
  have hn3 : n = 3 * (kOf vs + 4) := by omega
  obtain ⟨u, hu⟩ := valid_szK hv (by unfold kOf; omega)
  obtain ⟨m, hme⟩ := Int.eq_ofNat_of_zero_le (show 0 ≤ most by omega)
  subst hme
  have hm8 : m ≤ 8 := by omega
  obtain ⟨k, hkk⟩ : ∃ k, k = kOf vs := ⟨_, rfl⟩
  obtain ⟨N, hN⟩ : ∃ N, N = nHv vs k kind m := ⟨_, rfl⟩
  have HNE := Lib.hid hN
  have HNA : Hid (nHA vs kind (m : Int) = N) := Lib.hid (by unfold nHA; rw [if_pos hE, Int.toNat_natCast, hN, hkk])
  have HKO0 : Hid (kOf vs = k) := Lib.hid hkk.symm
  have HM64 : Hid (N ≤ 64) := Lib.hid (by
    rw [hN]
    unfold nHv
    cases hf : (List.range m).find? (okN kind vs k) with
    | none => show m ≤ 64; omega
    | some j =>
      rw [List.find?_range_eq_some] at hf
      have := List.mem_range.1 hf.2.1
      show j + 1 ≤ 64
      omega)
  have HRH := Lib.hid (fun W (hW : Rd .i64 W S n cs vs) => by
    rw [hn3, ← hkk] at hW
    exact rhalves_any S k u cs vs kind m W hW (by rw [hkk]; exact hu) (by omega) hs)
  rw [hkk, ← hn3, ← hkk] at HRH
  have HX := Lib.hid hx
  have HE := Lib.hid hE
  have hm81 : (m : Int) ≤ 8 := by omega
  have hk9 : k ≤ 600 := by rw [hkk]; unfold kOf; omega
  clear hE hx h3 hv hk hm hs hkb hkn hn3 hu hkk hN hl hg hm8
  refine (callsIn_wide (n := 3)).1 ?_
  refine callsIn_of_wp_marks Tryz.func5 rfl trivial ?_
  simp only [Tryz.ntmps5, List.size_toArray, List.length_cons, List.length_nil, Nat.reduceAdd, Nat.reduceSub, Array.replicate_succ, Array.replicate_zero, List.push_toArray, List.append_toArray, List.nil_append, List.cons_append]
  refine wpIn_wide.2 ?_
  obtain ⟨W0, hW0⟩ : ∃ W0, W0 = (w.alloc (.cells #[.int .i64 a3] 3)).alloc (.cells #[.bool false] 4) := ⟨_, rfl⟩
  have x7 : Blk W0 w.heap.size 3 [.int .i64 a3] := by rw [hW0]; exact (Blk.new w [.int .i64 a3] 3 rfl).alloc _
  have x8 : Blk W0 (w.heap.size + 1) 4 [.bool false] := by rw [hW0]; exact Blk.new (w.alloc _) [.bool false] 4 (by simp)
  have hb0 : Below w.heap.size w W0 := by rw [hW0]; exact ((Below.refl _ w).alloc (Nat.le_refl _) _).alloc (by simp) _
  have X7 := Lib.hid x7
  have X8 := Lib.hid x8
  have HX8LT : Hid (w.heap.size + 1 < W0.heap.size) := Lib.hid x8.lt
  have HB0 := Lib.hid hb0
  have HW0 := Lib.hid hW0
  have HZ0 : Hid (W0.heap.size = w.heap.size + 1 + 1) := Lib.hid (by rw [hW0]; simp)
  clear x7 x8 hb0 hW0
  go_wp2_with fail
  rw [← HW0.out]
  obtain ⟨W1, hW1⟩ : ∃ W1, W1 = W0.alloc (.cells #[.slice none 0 0] 49) := ⟨_, rfl⟩
  have hq : Below W0.heap.size W0 W1 := by rw [hW1]; exact (Below.refl _ W0).alloc (Nat.le_refl _) _
  have x9 : Blk W1 W0.heap.size 49 [.slice none 0 0] := by rw [hW1]; exact Blk.new W0 [.slice none 0 0] 49 rfl
  have X7 := Lib.hid (X7.out.below hq)
  have X8 := Lib.hid (X8.out.below hq)
  have X9 := Lib.hid x9
  have hlt9 : w.heap.size + 1 < W0.heap.size := HX8LT.out
  have HB1 := Lib.hid (HB0.out.trans (hq.mono HB0.out.size))
  rw [← hW1]
  clear hW1 hq x9 HB0 HW0
  have hz0 := HZ0.out
  generalize hb9 : w.heap.size + 1 + 1 = b9 at *
  subst hz0
  clear hb9 HZ0
  generalize W0.heap.size = b9 at *
  refine (rwrong_any S n cs vs kind _ _ (Rdv.below HX.out HB1.out) (by omega)).mono ?_
  rintro e w2 ⟨rfl, hB2⟩
  have X7 := Lib.hid (X7.out.below hB2)
  have X8 := Lib.hid (X8.out.below hB2)
  have X9 := Lib.hid (X9.out.below hB2)
  have HB2 := Lib.hid (HB1.out.trans (hB2.mono HB1.out.size))
  clear hB2 HB1
  rw [HE.out]
  go_wp2_with fail
  refine (HRH.out w2 (Rdv.below HX.out HB2.out)).mono ?_
  rintro e w3 ⟨Aw, cw, L, bb, rfl, hBL, hrows, hB3, hr⟩
  have HLN : Hid (L.length = N) := Lib.hid (by
    rw [HNE.out]
    rcases hr with ⟨-, h, h1, h2, h3, h4⟩ | ⟨-, h1, h2⟩
    · rw [h1, nHv_stop h2 h4 h3]
    · rw [h1, nHv_none h2])
  have hlnn := HLN.out
  rw [hlnn]
  have HRW := Lib.hid hrows
  have HBL3 := Lib.hid hBL
  have X7 := Lib.hid (X7.out.below hB3)
  have X8 := Lib.hid (X8.out.below hB3)
  have x9 := X9.out.below hB3
  have HB3 := Lib.hid (HB2.out.trans (hB3.mono HB2.out.size))
  have HW9 : Hid (b9 < w2.heap.size) := Lib.hid X9.out.lt
  clear hBL hrows hB3 hr HB2 X9 hlnn
  have c9 := x9.cell (j := 0) (v := .slice none 0 0) rfl
  have f9 := x9.frozen 0
  have hg9 := grownBy_set w3 b9 0 (.slice Aw N cw)
  have HX9 : Hid (Blk (w3.setCell ⟨b9, 0, none⟩ (.slice Aw N cw)) b9 49 [.slice Aw N cw]) := Lib.hid (x9.set 0 (.slice Aw N cw))
  have X7 := Lib.hid (X7.out.grown hg9 (by omega))
  have X8 := Lib.hid (X8.out.grown hg9 (by omega))
  have HBL4 := Lib.hid (BL.grownL HBL3.out HW9.out hg9)
  have HB4 := Lib.hid (HB3.out.setCell (p := ⟨b9, 0, none⟩) (by show w.heap.size ≤ b9; omega) (.slice Aw N cw))
  have HX4 := Lib.hid (Rdv.below HX.out HB4.out)
  clear x9 hg9 HB3 HBL3
  obtain ⟨w5, hw5⟩ : ∃ w5, w5 = w3.setCell ⟨b9, 0, none⟩ (.slice Aw N cw) := ⟨_, rfl⟩
  rw [← hw5] at X7 X8 HX9 HBL4 HB4 HX4
  have HW5 := Lib.hid hw5
  have HZ35 : Hid (w3.heap.size = w5.heap.size) := Lib.hid (by rw [hw5]; simp)
  clear hw5
  have HAW : Hid (∀ a, Aw = some a → b9 ≠ a.block ∧ w.heap.size + 1 < a.block ∧ a.block < w5.heap.size) := Lib.hid (fun a ha => by
    have h1 := HBL4.out.o
    rcases (Ownv.cases h1).2 with ⟨h8, -, -⟩ | ⟨g, cur, h8, h9, h10, -⟩
    · rw [h8] at ha; cases ha
    · rw [h8] at ha
      cases ha
      have h11 := heap_lt' h10
      have h12 := HW9.out
      show b9 ≠ g ∧ _ < g ∧ g < _
      omega)
  have HAR : Hid (∀ s ∈ L, ∀ a, s.A = some a → b9 ≠ a.block ∧ w.heap.size + 1 < a.block ∧ a.block < w5.heap.size) := Lib.hid (fun s hs a ha => by
    have h1 := HBL4.out.r s hs
    have h2 := Ownv.blk_of h1.1 h1.2
    rw [ha] at h2
    have h12 := HW9.out
    have h3 : w2.heap.size ≤ a.block ∧ a.block < w5.heap.size := h2
    omega)
  have KF : Hid (KpF w.heap.size (w.heap.size + 1) b9 a3 Aw N cw L (fun _ => True) w w5) := Lib.hid ⟨X7.out, X8.out, HX9.out, by have h9 := HBL4.out.o.rd; rw [HLN.out] at h9; exact h9, fun s hs => Own.rd (HBL4.out.r s hs).1, trivial, HB4.out⟩
  have HX9LT := Lib.hid HX9.out.lt
  have HWZ := Lib.hid HB4.out.size
  clear X7 X8 HX9 HB4 HW9 HBL4

  go_wp2_with (
    at_builtin
    try rw [← HW5.out]
    refine list_of rfl fun K hK => wp_appB (w0 := w5) (vs := []) (.tmp 42) (.tmp 43) 34 rfl el22 rfl rfl (bal (Below.refl _ w5) _) ?_ (Rdv.below HX4.out (bal (Below.refl _ w5) _)) (oneCell_ints .i64 _) (by omega) (by unfold maxLen; omega) ?_
    · first | exact Ownv.of_heap (cs := #[]) (heap_new' rfl) (Nat.le_refl _) (by show 0 ≤ maxLen; omega) | exact Ownv.of_heap (cs := #[]) (heap_new' HZ35.out) (Nat.le_of_eq HZ35.out.symm) (by show 0 ≤ maxLen; omega)
    intro A1 c1 w6 h1 h2 _
    rw [Nat.zero_add] at h1 ⊢
    refine hK _ _ ?_
    clear hK K
    have HO6 : Hid (Own .i64 3 w6 w5.heap.size A1 n c1 vs) := Lib.hid (by simpa [Own] using h1)
    have HB6 := Lib.hid h2
    clear h1 h2)
  have HZ6 := Lib.hid HB6.out.size
  have KF := Lib.hid (KF.out.belowT HB6.out)
  refine (halves_all A1 n c1 vs kind _ w6 (Own.rd HO6.out) (by omega)).mono ?_
  rintro e w9 ⟨lb, Ok, Fw, rfl, hIt, hFw, hfr, hB9⟩
  have HO9 := Lib.hid (Ownv.below HO6.out hB9)
  have HOL : Hid (∀ q, q < w6.heap.size → Ok q) := Lib.hid hIt.low
  rw [HNA.out, HKO0.out] at hIt
  have HIT := Lib.hid hIt
  have HFR := Lib.hid hfr
  have KF := Lib.hid ((KF.out.belowT hB9).to hFw)
  have HZ9 := Lib.hid (Nat.le_trans HZ6.out hB9.size)
  have hfn := fun W => run_eql_func_nil (P := Tryz.prog) W Tryz.underlying54 (.func 59) #[] lb
  have HKO1 : Hid (0 < n → KpO w.heap.size (w.heap.size + 1) b9 Aw L Ok (blk A1)) := Lib.hid (fun h0 => by
    have hA : A1 ≠ none := own_some3 HO6.out h0
    have h1 := Ownv.blk_of HO6.out hA
    have hx9 := HX9LT.out
    exact ⟨by omega, by omega, by omega, fun a ha => by have := HAW.out a ha; omega, fun s hs a ha => by have := HAR.out s hs a ha; omega, HOL.out _ h1.2⟩)
  clear hIt hFw hfr hB9 HO6 HB6
  go_wp2_with fail
  go_loopw [12] (fun i wr => OwI vs w.heap.size (w.heap.size + 1) b9 a3 Aw N cw L Fw w w5.heap.size w9.heap.size A1 n c1 i wr) (fun i _ => n - (intOf i).toNat)
  case atStart => exact ⟨0, vs, Nat.zero_le _, rfl, HO9.out, KF.out, Nat.le_refl _⟩
  case round =>
    obtain ⟨j, cur, hj, rfl, hO, hK, hZ⟩ := hrel
    by_cases hlt : j < n
    · have hc := Rd.cell (Own.rd hO) hlt
      have hf := Ownv.frozen hO (by have := (Own.rd hO).le; omega) j
      have hix := fun W => Rdv.ix (Own.rd hO) el22 hlt .i64 W
      have HS := Lib.hid (Own.set_ hO hlt 1)
      have HK2 := Lib.hid (hK.kp HIT.out (HKO1.out (by omega)) (KpB.set (Own.set_ hO hlt 1).2 (by simp)) (hK.bl.grown (Own.set_ hO hlt 1).2 hK.bl.size (fun k hk => by cases hk; have h1 := (Ownv.blk_ge hO (by have := (Own.rd hO).le; omega)).1; have := HWZ.out; omega)))
      have HZr := Lib.hid hZ
      clear hO hK hZ
      go_wp2
      go_roundw
      case rel => exact ⟨j + 1, _, by omega, by go_num, HS.out.1, HK2.out, Nat.le_trans HZr.out HS.out.2.size⟩
      case measure => simp [intOf]; omega
    · have HK2 := Lib.hid hK
      have HZr := Lib.hid hZ
      clear hO hK hZ
      go_wp2_with fail
      have hx9 := HX9LT.out
      have hwz := HWZ.out
      have hz9 := HZ9.out
      have hzr := HZr.out
      obtain ⟨Wt, hWt⟩ : ∃ Wt, Wt = wr.alloc (.cells #[.int .i64 0] 3) := ⟨_, rfl⟩
      have x15 : Blk Wt wr.heap.size 3 [.int .i64 0] := by rw [hWt]; exact Blk.new wr [.int .i64 0] 3 rfl
      have kt : KpF w.heap.size (w.heap.size + 1) b9 a3 Aw N cw L Fw w Wt := by rw [hWt]; exact HK2.out.below HIT.out ((Below.refl _ wr).alloc (Nat.le_refl _) _)
      have hst : Wt.heap.size = wr.heap.size + 1 := by rw [hWt]; simp
      rw [← hWt]
      clear HK2 hWt HZr HKO1 HO9
      have h15 : w9.heap.size ≤ wr.heap.size := hzr
      generalize wr.heap.size = b15 at *
      refine wp_loop_rounds 3 ?_
      rw [rounds_succ]
      have c15 := x15.cell (j := 0) (v := .int .i64 0) rfl
      go_wp2_with fail
      obtain ⟨Wr, hWr⟩ : ∃ Wr, Wr = Wt.alloc (.cells #[.int .i64 0] 3) := ⟨_, rfl⟩
      have hbW : Below Wt.heap.size Wt Wr := by rw [hWr]; exact (Below.refl _ Wt).alloc (Nat.le_refl _) _
      have x16 : Blk Wr (b15 + 1) 3 [.int .i64 ((0 : Nat) : Int)] := by rw [hWr]; exact Blk.new Wt [.int .i64 0] 3 hst.symm
      have X15 := Lib.hid (x15.below hbW)
      have KR := Lib.hid (kt.below HIT.out hbW)
      have hsr : Wr.heap.size = Wt.heap.size + 1 := by rw [hWr]; simp
      rw [← hWr]
      clear hWr hbW x15 kt c15
      have hsr : Wr.heap.size = b15 + 1 + 1 := by rw [hsr, hst]
      clear hst
      generalize hb16 : b15 + 1 = b16 at *
      have h16 : b15 < b16 := by omega
      clear hb16
      have HKO : Hid (KpO w.heap.size (w.heap.size + 1) b9 Aw L Ok b16) := Lib.hid ⟨by omega, by omega, by omega, fun a ha => by have := HAW.out a ha; omega, fun s hs a ha => by have := HAR.out s hs a ha; omega, HFR.out _ (by omega)⟩
      have HW16 : Hid (w.heap.size ≤ b16 ∧ b15 ≠ b16) := Lib.hid ⟨by omega, by omega⟩
      have HSR : Hid (Wr.heap.size = b16 + 1) := Lib.hid (by omega)
      have HX16 := Lib.hid x16
      have HDD : Hid (∀ X, none = some X → X < Wr.heap.size) := Lib.hid (fun D e => by cases e)
      refine (wpIn_wide (n := 3)).1 ?_
      refine' rangeG (w0 := Wr) (gf := 59) (lb := lb) rfl (enters_of Tryz.func59 (by kernel_rfl) rfl) (HIT.out.seq b16 _ Wr HKO.out.ok HX16.out KR.out.fw) (fun B pre x W l o o' hk h1 h2 => hk.put o' h1 h2) KpQ.trans (fun x W l o o' hl h1 h2 => KpQ.put o' h1 h2) (Below.refl _ _) (fun _ => rfl)
        (Lp0 w Wr b16 none (fun n => n = 0 ∨ (n : Int) < a3)) (Lpx w Wr b16 none (fun n => 1 ≤ n ∧ a3 ≤ (n : Int) ∧ (n = 1 ∨ (n : Int) - 1 < a3) ∧ n ≤ N) 4) (Lp0.cl (by omega) (by omega) (fun D e => by cases e)) (fun c => Lpx.cl (by omega) (by omega) (fun D e => by cases e) c) ⟨.inl rfl, ⟨x16, KpB.refl _ _, KR.out.bl, fun D e => by cases e⟩⟩ _ ?assign ?body ?done ?stop
      case assign =>
        intro l x W K hK
        unfold encH
        gi_wp2
        exact hK
      case body =>
        rintro l pre ⟨x1, R, c⟩ W ⟨hC, hI⟩ ⟨hpl, hx1, hO⟩
        dsimp only
        obtain ⟨n, hn⟩ : ∃ n, pre.length = n := ⟨_, rfl⟩
        rw [hn] at hC hI hpl hx1 hO
        have hx1 : x1 = (n : Int) + 1 := hx1
        have hO : Own .u8 5 W (Wr.heap.size + 2) R k c (decN vs k n) := hO
        subst hx1
        have KW := KR.out.kp HIT.out HKO.out hI.k hI.bl
        have hnN : n < N := hpl
        have h15k := X15.out.kp hI.k (by simpa using HW16.out.2)
        have c15 := h15k.cell (j := 0) (v := .int .i64 0) rfl
        have c16 := hI.x.cell (j := 0) (v := .int .i64 (n : Int)) rfl
        have c9 := KW.x9.cell (j := 0) (v := .slice Aw N cw) rfl
        obtain ⟨s, hs⟩ : ∃ s, L[n]? = some s := ⟨_, List.getElem?_eq_getElem (by rw [HLN.out]; exact hpl)⟩
        have hsr := HRW.out n s hs
        have hcw : W.cell? (adr Aw n) = some (.slice s.A s.n s.c) := KW.r.at_ n s.v (by rw [List.getElem?_map, hs]; rfl)
        have hixw := fun W => Rdv.ix KW.r el100 hnN .i64 W
        have HSS := Lib.hid (same_self R s.A k c s.n s.c (decN vs k n) W (Own.rd hO) (by rw [← hsr.2]; exact KW.rr s (List.mem_of_getElem? hs)))
        have HO := Lib.hid hO
        have HI := Lib.hid hI
        have HC := Lib.hid hC
        have HNN := Lib.hid hnN
        have HNE := Lib.hid hn
        have n15 := HW16.out.2
        have hge : decide ((n : Int) ≥ (N : Int)) = false := by simp; omega
        have hge2 : ¬ ((N : Int) ≤ (n : Int)) := by omega
        have hnb : (n : Int) + 1 ≤ 1000 := by have := HM64.out; omega
        have wn : IntKind.i64.wrap ((n : Int) + 1) = (n : Int) + 1 := IntWalk.i64_in _ (by omega)
        clear hsr hI hC KW h15k hpl hO hs hnb hn
        gi_wp2_with ((with_reducible refine callR ?_); refine HSS.out.mono ?_; rintro en W1 ⟨rfl, rfl⟩)
        gi_loopw [17] (fun i wr => BdI k R c w Wr b16 none n W i wr) (fun i _ => k - (intOf i).toNat)
        case atStart => exact ⟨0, _, Nat.zero_le _, rfl, HO.out, KeepsOthers.refl _, KpB.refl _ _, HI.out⟩
        case round =>
          obtain ⟨j, cur, hj, rfl, hO, hK, hB, hI⟩ := hrel
          by_cases hlt : j < k
          · have hf := Ownv.frozen hO (by have := (Own.rd hO).le; omega) j
            have hix := fun W => Rdv.ix (Own.rd hO) el26 hlt .i64 W
            have hcj := Rd.cell (Own.rd hO) hlt
            have HS := Lib.hid (BdI.step hlt hO hK hB hI (by have := HSR.out; have := HW16.out.1; omega) (by have := HSR.out; omega) HDD.out 9)
            clear hO hK hB hI c15 c16 c9 hcw hge hge2
            gi_wp2
            go_roundw
            case rel => have h9 := HS.out; push_cast at h9; exact h9
            case measure => simp [intOf]; omega
          · have HE := Lib.hid (bd_end hK hB hI HW16.out.1 ((n : Int) + 1) c (.int .i64 ((n : Int) + 1)) (by push_cast; rfl))
            have KE := KR.out.kp HIT.out HKO.out HE.out.2.2.k HE.out.2.2.bl
            have d16 := hI.x.cell (j := 0) (v := .int .i64 (n : Int)) rfl
            have g16 := hI.x.frozen 0
            have d15 := (X15.out.kp HE.out.2.2.k (by simpa using HW16.out.2)).cell (j := 0) (v := .int .i64 0) rfl
            have e16 := HE.out.2.2.x.cell (j := 0) (v := .int .i64 ((n + 1 : Nat) : Int)) rfl
            push_cast at e16
            have d7 := KE.x7.cell (j := 0) (v := .int .i64 a3) rfl
            clear hO hK hB hI KE c15 c16 c9 hcw hge hge2
            by_cases hm : a3 ≤ (n : Int) + 1
            · gi_wp2
              exact ⟨HE.out.1, rfl, by rw [List.length_append, HNE.out]; show _ ∧ _; have := HC.out; have := HNN.out; simp only [List.length_cons, List.length_nil]; omega, by rw [List.length_append, HNE.out]; exact HE.out.2.2⟩
            · gi_wp2
              exact ⟨HE.out.1, HE.out.2.1, by rw [List.length_append, HNE.out]; right; simp only [List.length_cons, List.length_nil]; omega, by rw [List.length_append, HNE.out]; exact HE.out.2.2⟩
      case done =>
        rintro D ys W hD hys ⟨hC, hI⟩ hK
        rw [hys] at hC hI
        clear hys
        have KWH := Lib.hid (KR.out.kp HIT.out HKO.out hI.k hI.bl)
        have c15 := (X15.out.kp hI.k (by simpa using HW16.out.2)).cell (j := 0) (v := .int .i64 0) rfl
        have c16 := hI.x.cell (j := 0) (v := .int .i64 ((N : Nat) : Int)) rfl
        have c7 := KWH.out.x7.cell (j := 0) (v := .int .i64 a3) rfl
        have c9 := KWH.out.x9.cell (j := 0) (v := .slice Aw N cw) rfl
        have HKI := Lib.hid hI.k
        have HKD := Lib.hid hK
        clear hI hK
        rcases hC with h0 | h0
        · have hn0 := h0
          by_cases hm : a3 ≤ 1
          · dsimp only
            go_wp2_with fail
            obtain ⟨Wu, hWu⟩ : ∃ Wu, Wu = W.alloc (.cells #[.int .i64 1] 3) := ⟨_, rfl⟩
            have x15 : Blk Wu W.heap.size 3 [.int .i64 1] := by rw [hWu]; exact Blk.new W [.int .i64 1] 3 rfl
            have kt : KpF w.heap.size (w.heap.size + 1) b9 a3 Aw N cw L Fw w Wu := by rw [hWu]; exact KWH.out.below HIT.out ((Below.refl _ W).alloc (Nat.le_refl _) _)
            have HDt : Hid (Wu.heap[D]? = some (.deferred (some []))) := Lib.hid (by rw [hWu]; exact heap_old' HKD.out)
            have hst : Wu.heap.size = W.heap.size + 1 := by rw [hWu]; simp
            have hwsz := HKI.out.1
            have hsr0 := HSR.out
            have h15 : w9.heap.size ≤ W.heap.size := by omega
            have HDlo : Hid (w9.heap.size ≤ D) := Lib.hid (by omega)
            rw [← hWu]
            clear hWu c15 c16 c7 c9 hD
            try clear hn0
            try clear hm
            try clear hl
            try clear h0
            generalize W.heap.size = b17 at *
            rw [rounds_succ]
            have c15 := x15.cell (j := 0) (v := .int .i64 1) rfl
            go_wp2_with fail
            obtain ⟨Wv, hWr⟩ : ∃ Wv, Wv = Wu.alloc (.cells #[.int .i64 0] 3) := ⟨_, rfl⟩
            have hbW : Below Wu.heap.size Wu Wv := by rw [hWr]; exact (Below.refl _ Wu).alloc (Nat.le_refl _) _
            have x16 : Blk Wv (b17 + 1) 3 [.int .i64 ((0 : Nat) : Int)] := by rw [hWr]; exact Blk.new Wu [.int .i64 0] 3 hst.symm
            have X152 := Lib.hid (x15.below hbW)
            have KR2 := Lib.hid (kt.below HIT.out hbW)
            have hsr : Wv.heap.size = Wu.heap.size + 1 := by rw [hWr]; simp
            have HDW : Hid (Wv.heap[D]? = some (.deferred (some []))) := Lib.hid ((hbW.block D (heap_lt' HDt.out)).trans HDt.out)
            have hdv := heap_lt' HDW.out
            rw [← hWr]
            clear hWr hbW x15 kt c15
            have hsr : Wv.heap.size = b17 + 1 + 1 := by rw [hsr, hst]
            clear hst
            generalize hb16 : b17 + 1 = b18 at *
            have h16 : b17 < b18 := by omega
            clear hb16
            have HKO2 : Hid (KpO w.heap.size (w.heap.size + 1) b9 Aw L Ok b18) := Lib.hid ⟨by omega, by omega, by omega, fun a ha => by have := HAW.out a ha; omega, fun s hs a ha => by have := HAR.out s hs a ha; omega, HFR.out _ (by omega)⟩
            have HW162 : Hid (w.heap.size ≤ b18 ∧ b17 ≠ b18) := Lib.hid ⟨by omega, by omega⟩
            have HSR2 : Hid (Wv.heap.size = b18 + 1) := Lib.hid (by omega)
            have HX162 := Lib.hid x16
            have HDD2 : Hid (∀ X, (some D) = some X → X < Wv.heap.size) := Lib.hid (fun D e => by cases e; omega)
            refine (wpIn_wide (n := 3)).1 ?_
            refine' rangeG (w0 := Wv) (gf := 59) (lb := lb) rfl (enters_of Tryz.func59 (by kernel_rfl) rfl) (HIT.out.seq b18 _ Wv HKO2.out.ok HX162.out KR2.out.fw) (fun B pre x W l o o' hk h1 h2 => hk.put o' h1 h2) KpQ.trans (fun x W l o o' hl h1 h2 => KpQ.put o' h1 h2) (Below.refl _ _) (fun _ => rfl)
              (Lp0 w Wv b18 (some D) (fun _ => True)) (Lpx w Wv b18 (some D) (fun _ => False) 4) (Lp0.cl (by omega) (by omega) (fun D e => by cases e; omega)) (fun c => Lpx.cl (by omega) (by omega) (fun D e => by cases e; omega) c) ⟨trivial, ⟨x16, KpB.refl _ _, KR2.out.bl, fun D e => by cases e; exact HDW.out⟩⟩ _ ?assign2 ?body2 ?done2 ?stop2
            case assign2 =>
              intro l x W K hK
              unfold encH
              gi_wp2
              exact hK
            case body2 =>
              rintro l pre ⟨x1, R, c⟩ W ⟨hC, hI⟩ ⟨hpl, hx1, hO⟩
              dsimp only
              obtain ⟨n, hn⟩ : ∃ n, pre.length = n := ⟨_, rfl⟩
              rw [hn] at hI hpl hx1 hO
              have hx1 : x1 = (n : Int) + 1 := hx1
              have hO : Own .u8 5 W (Wv.heap.size + 2) R k c (decN vs k n) := hO
              subst hx1
              have KW := KR2.out.kp HIT.out HKO2.out hI.k hI.bl
              have hnN : n < N := hpl
              have h15k := X152.out.kp hI.k (by simpa using HW162.out.2)
              have c15 := h15k.cell (j := 0) (v := .int .i64 1) rfl
              have c16 := hI.x.cell (j := 0) (v := .int .i64 (n : Int)) rfl
              have c9 := KW.x9.cell (j := 0) (v := .slice Aw N cw) rfl
              obtain ⟨s, hs⟩ : ∃ s, L[n]? = some s := ⟨_, List.getElem?_eq_getElem (by rw [HLN.out]; exact hpl)⟩
              have hsr := HRW.out n s hs
              have hcw : W.cell? (adr Aw n) = some (.slice s.A s.n s.c) := KW.r.at_ n s.v (by rw [List.getElem?_map, hs]; rfl)
              have hixw := fun W => Rdv.ix KW.r el100 hnN .i64 W
              have HSS := Lib.hid (same_self R s.A k c s.n s.c (decN vs k n) W (Own.rd hO) (by rw [← hsr.2]; exact KW.rr s (List.mem_of_getElem? hs)))
              have HO := Lib.hid hO
              have HI := Lib.hid hI
              have HC := Lib.hid hC
              have HNN := Lib.hid hnN
              have HNE := Lib.hid hn
              have n15 := HW162.out.2
              have hge : decide ((n : Int) ≥ (N : Int)) = false := by simp; omega
              have hge2 : ¬ ((N : Int) ≤ (n : Int)) := by omega
              have hnb : (n : Int) + 1 ≤ 1000 := by have := HM64.out; omega
              have wn : IntKind.i64.wrap ((n : Int) + 1) = (n : Int) + 1 := IntWalk.i64_in _ (by omega)
              clear hsr hI hC KW h15k hpl hO hs hnb hn
              gi_wp2_with ((with_reducible refine callR ?_); refine HSS.out.mono ?_; rintro en W1 ⟨rfl, rfl⟩)
              gi_loopw [17] (fun i wr => BdI k R c w Wv b18 (some D) n W i wr) (fun i _ => k - (intOf i).toNat)
              case atStart => exact ⟨0, _, Nat.zero_le _, rfl, HO.out, KeepsOthers.refl _, KpB.refl _ _, HI.out⟩
              case round =>
                obtain ⟨j, cur, hj, rfl, hO, hK, hB, hI⟩ := hrel
                by_cases hlt : j < k
                · have hf := Ownv.frozen hO (by have := (Own.rd hO).le; omega) j
                  have hix := fun W => Rdv.ix (Own.rd hO) el26 hlt .i64 W
                  have hcj := Rd.cell (Own.rd hO) hlt
                  have HS := Lib.hid (BdI.step hlt hO hK hB hI (by have := HSR2.out; have := HW162.out.1; omega) (by have := HSR2.out; omega) HDD2.out 9)
                  clear hO hK hB hI c15 c16 c9 hcw hge hge2
                  gi_wp2
                  go_roundw
                  case rel => have h9 := HS.out; push_cast at h9; exact h9
                  case measure => simp [intOf]; omega
                · have HE := Lib.hid (bd_end hK hB hI HW162.out.1 ((n : Int) + 1) c (.int .i64 ((n : Int) + 1)) (by push_cast; rfl))
                  have KE := KR2.out.kp HIT.out HKO2.out HE.out.2.2.k HE.out.2.2.bl
                  have d16 := hI.x.cell (j := 0) (v := .int .i64 (n : Int)) rfl
                  have g16 := hI.x.frozen 0
                  have d15 := (X152.out.kp HE.out.2.2.k (by simpa using HW162.out.2)).cell (j := 0) (v := .int .i64 1) rfl
                  have e16 := HE.out.2.2.x.cell (j := 0) (v := .int .i64 ((n + 1 : Nat) : Int)) rfl
                  push_cast at e16
                  have d7 := KE.x7.cell (j := 0) (v := .int .i64 a3) rfl
                  clear hO hK hB hI KE c15 c16 c9 hcw hge hge2
                  gi_wp2
                  exact ⟨HE.out.1, HE.out.2.1, trivial, by rw [List.length_append, HNE.out]; exact HE.out.2.2⟩
            case done2 =>
              rintro D2 ys W hD hys ⟨hC, hI⟩ hK
              rw [hys] at hI
              clear hys
              have hnn : (((N : Nat) : Int) != ((N : Nat) : Int)) = false := bne_f rfl
              have KWH2 := Lib.hid (KR2.out.kp HIT.out HKO2.out hI.k hI.bl)
              have c15 := (X152.out.kp hI.k (by simpa using HW162.out.2)).cell (j := 0) (v := .int .i64 1) rfl
              have c16 := hI.x.cell (j := 0) (v := .int .i64 ((N : Nat) : Int)) rfl
              have c7 := KWH2.out.x7.cell (j := 0) (v := .int .i64 a3) rfl
              have c9 := KWH2.out.x9.cell (j := 0) (v := .slice Aw N cw) rfl
              have HKI2 := Lib.hid hI.k
              have HKD2 := Lib.hid hK
              have HD2D : Hid (W.heap[D]? = some (.deferred (some []))) := Lib.hid (hI.d D rfl)
              have HBLW := Lib.hid hI.bl
              have hsk := HSR2.out
              have hwk := HW162.out.1
              have hw7 := HKO2.out.h7
              have hdv := heap_lt' HDW.out
              have hlo := HDlo.out
              have hx9 := HX9LT.out
              have hz9 := HZ9.out
              have hs1 : w.heap.size + 1 < D2 := by omega
              have hs2 : w.heap.size + 1 < D := by omega
              have hs3 : D < D2 := by omega
              clear hI hK hC hsk hwk hw7 hdv hlo hx9 hz9
              dsimp only
              go_wp2_with fail
              rw [rounds_succ]
              go_wp2_with fail
              refine (works_any _).mono ?_
              rintro e w20 ⟨rfl, hB20⟩
              have hb20 : Below W.heap.size W w20 := ((Below.refl _ W).alloc (Nat.le_refl _) _).trans (hB20.mono (by simp))
              have z8 := KWH2.out.x8.below hb20
              have c8 := z8.cell (j := 0) (v := .bool false) rfl
              have f8 := z8.frozen 0
              have Z8 := Lib.hid (z8.set 0 (.bool true))
              have d2 : (w20.setCell ⟨w.heap.size + 1, 0, none⟩ (.bool true)).heap[D2]? = some (.deferred (some [])) := (KeepsOthers.setCell w20 _ _).same D2 _ ((hb20.block D2 (heap_lt' HKD2.out)).trans HKD2.out) rfl
              have d1 : (w20.setCell ⟨w.heap.size + 1, 0, none⟩ (.bool true)).heap[D]? = some (.deferred (some [])) := (KeepsOthers.setCell w20 _ _).same D _ ((hb20.block D (heap_lt' HD2D.out)).trans HD2D.out) rfl
              have hbl := (HBLW.out.trans (hb20.mono HBLW.out.size)).setCell (p := ⟨w.heap.size + 1, 0, none⟩) (Nat.le_succ _) (.bool true)
              have hbl2 := hbl.grown (grownBy_putObj' _ D2 (.deferred none)) hbl.size (fun r e => by cases e; omega)
              have hbl3 := hbl2.grown (grownBy_putObj' _ D (.deferred none)) hbl2.size (fun r e => by cases e; omega)
              have HD1 := Lib.hid d1
              have HD2 := Lib.hid d2
              have HBL3 := Lib.hid hbl3
              have hdd : D ≠ D2 := by omega
              have hd8 : w.heap.size + 1 ≠ D2 ∧ w.heap.size + 1 ≠ D := by omega
              clear hb20 z8 hB20 d1 d2 hbl hbl2 hbl3
              go_wp2
              have b6 := ((Z8.out.grown (grownBy_putObj' _ D2 (.deferred none)) (by simpa using hd8.1)).grown (grownBy_putObj' _ D (.deferred none)) (by simpa using hd8.2))
              have l1 := load_bool b6
              refine ⟨by simp, .inl ⟨_, _, rfl, run_takeDeferred HD2.out, by simp, .inl ⟨_, _, rfl, run_takeDeferred ((World.putObj_heap_other (by omega)).trans HD1.out), ?_⟩⟩⟩
              refine ⟨.bool true, ?_, rfl, HBL3.out⟩
              rw [results_c rfl]
              simp [asAddr, l1, Sem.run_pure]
            case stop2 =>
              rintro D2 c pre W hD hpk ⟨rfl, hC, hI⟩ hK
              exact hC.elim
          · dsimp only
            go_wp2_with fail
            obtain ⟨Wu, hWu⟩ : ∃ Wu, Wu = W.alloc (.cells #[.int .i64 1] 3) := ⟨_, rfl⟩
            have x15 : Blk Wu W.heap.size 3 [.int .i64 1] := by rw [hWu]; exact Blk.new W [.int .i64 1] 3 rfl
            have kt : KpF w.heap.size (w.heap.size + 1) b9 a3 Aw N cw L Fw w Wu := by rw [hWu]; exact KWH.out.below HIT.out ((Below.refl _ W).alloc (Nat.le_refl _) _)
            have HDt : Hid (Wu.heap[D]? = some (.deferred (some []))) := Lib.hid (by rw [hWu]; exact heap_old' HKD.out)
            have hst : Wu.heap.size = W.heap.size + 1 := by rw [hWu]; simp
            have hwsz := HKI.out.1
            have hsr0 := HSR.out
            have h15 : w9.heap.size ≤ W.heap.size := by omega
            have HDlo : Hid (w9.heap.size ≤ D) := Lib.hid (by omega)
            rw [← hWu]
            clear hWu c15 c16 c7 c9 hD
            try clear hn0
            try clear hm
            try clear hl
            try clear h0
            generalize W.heap.size = b17 at *
            rw [rounds_succ]
            have c15 := x15.cell (j := 0) (v := .int .i64 1) rfl
            go_wp2_with fail
            obtain ⟨Wv, hWr⟩ : ∃ Wv, Wv = Wu.alloc (.cells #[.int .i64 0] 3) := ⟨_, rfl⟩
            have hbW : Below Wu.heap.size Wu Wv := by rw [hWr]; exact (Below.refl _ Wu).alloc (Nat.le_refl _) _
            have x16 : Blk Wv (b17 + 1) 3 [.int .i64 ((0 : Nat) : Int)] := by rw [hWr]; exact Blk.new Wu [.int .i64 0] 3 hst.symm
            have X153 := Lib.hid (x15.below hbW)
            have KR3 := Lib.hid (kt.below HIT.out hbW)
            have hsr : Wv.heap.size = Wu.heap.size + 1 := by rw [hWr]; simp
            have HDW : Hid (Wv.heap[D]? = some (.deferred (some []))) := Lib.hid ((hbW.block D (heap_lt' HDt.out)).trans HDt.out)
            have hdv := heap_lt' HDW.out
            rw [← hWr]
            clear hWr hbW x15 kt c15
            have hsr : Wv.heap.size = b17 + 1 + 1 := by rw [hsr, hst]
            clear hst
            generalize hb16 : b17 + 1 = b18 at *
            have h16 : b17 < b18 := by omega
            clear hb16
            have HKO3 : Hid (KpO w.heap.size (w.heap.size + 1) b9 Aw L Ok b18) := Lib.hid ⟨by omega, by omega, by omega, fun a ha => by have := HAW.out a ha; omega, fun s hs a ha => by have := HAR.out s hs a ha; omega, HFR.out _ (by omega)⟩
            have HW163 : Hid (w.heap.size ≤ b18 ∧ b17 ≠ b18) := Lib.hid ⟨by omega, by omega⟩
            have HSR3 : Hid (Wv.heap.size = b18 + 1) := Lib.hid (by omega)
            have HX163 := Lib.hid x16
            have HDD3 : Hid (∀ X, (some D) = some X → X < Wv.heap.size) := Lib.hid (fun D e => by cases e; omega)
            refine (wpIn_wide (n := 3)).1 ?_
            refine' rangeG (w0 := Wv) (gf := 59) (lb := lb) rfl (enters_of Tryz.func59 (by kernel_rfl) rfl) (HIT.out.seq b18 _ Wv HKO3.out.ok HX163.out KR3.out.fw) (fun B pre x W l o o' hk h1 h2 => hk.put o' h1 h2) KpQ.trans (fun x W l o o' hl h1 h2 => KpQ.put o' h1 h2) (Below.refl _ _) (fun _ => rfl)
              (Lp0 w Wv b18 (some D) (fun _ => True)) (Lpx w Wv b18 (some D) (fun _ => False) 4) (Lp0.cl (by omega) (by omega) (fun D e => by cases e; omega)) (fun c => Lpx.cl (by omega) (by omega) (fun D e => by cases e; omega) c) ⟨trivial, ⟨x16, KpB.refl _ _, KR3.out.bl, fun D e => by cases e; exact HDW.out⟩⟩ _ ?assign3 ?body3 ?done3 ?stop3
            case assign3 =>
              intro l x W K hK
              unfold encH
              gi_wp2
              exact hK
            case body3 =>
              rintro l pre ⟨x1, R, c⟩ W ⟨hC, hI⟩ ⟨hpl, hx1, hO⟩
              dsimp only
              obtain ⟨n, hn⟩ : ∃ n, pre.length = n := ⟨_, rfl⟩
              rw [hn] at hI hpl hx1 hO
              have hx1 : x1 = (n : Int) + 1 := hx1
              have hO : Own .u8 5 W (Wv.heap.size + 2) R k c (decN vs k n) := hO
              subst hx1
              have KW := KR3.out.kp HIT.out HKO3.out hI.k hI.bl
              have hnN : n < N := hpl
              have h15k := X153.out.kp hI.k (by simpa using HW163.out.2)
              have c15 := h15k.cell (j := 0) (v := .int .i64 1) rfl
              have c16 := hI.x.cell (j := 0) (v := .int .i64 (n : Int)) rfl
              have c9 := KW.x9.cell (j := 0) (v := .slice Aw N cw) rfl
              obtain ⟨s, hs⟩ : ∃ s, L[n]? = some s := ⟨_, List.getElem?_eq_getElem (by rw [HLN.out]; exact hpl)⟩
              have hsr := HRW.out n s hs
              have hcw : W.cell? (adr Aw n) = some (.slice s.A s.n s.c) := KW.r.at_ n s.v (by rw [List.getElem?_map, hs]; rfl)
              have hixw := fun W => Rdv.ix KW.r el100 hnN .i64 W
              have HSS := Lib.hid (same_self R s.A k c s.n s.c (decN vs k n) W (Own.rd hO) (by rw [← hsr.2]; exact KW.rr s (List.mem_of_getElem? hs)))
              have HO := Lib.hid hO
              have HI := Lib.hid hI
              have HC := Lib.hid hC
              have HNN := Lib.hid hnN
              have HNE := Lib.hid hn
              have n15 := HW163.out.2
              have hge : decide ((n : Int) ≥ (N : Int)) = false := by simp; omega
              have hge2 : ¬ ((N : Int) ≤ (n : Int)) := by omega
              have hnb : (n : Int) + 1 ≤ 1000 := by have := HM64.out; omega
              have wn : IntKind.i64.wrap ((n : Int) + 1) = (n : Int) + 1 := IntWalk.i64_in _ (by omega)
              clear hsr hI hC KW h15k hpl hO hs hnb hn
              gi_wp2_with ((with_reducible refine callR ?_); refine HSS.out.mono ?_; rintro en W1 ⟨rfl, rfl⟩)
              gi_loopw [17] (fun i wr => BdI k R c w Wv b18 (some D) n W i wr) (fun i _ => k - (intOf i).toNat)
              case atStart => exact ⟨0, _, Nat.zero_le _, rfl, HO.out, KeepsOthers.refl _, KpB.refl _ _, HI.out⟩
              case round =>
                obtain ⟨j, cur, hj, rfl, hO, hK, hB, hI⟩ := hrel
                by_cases hlt : j < k
                · have hf := Ownv.frozen hO (by have := (Own.rd hO).le; omega) j
                  have hix := fun W => Rdv.ix (Own.rd hO) el26 hlt .i64 W
                  have hcj := Rd.cell (Own.rd hO) hlt
                  have HS := Lib.hid (BdI.step hlt hO hK hB hI (by have := HSR3.out; have := HW163.out.1; omega) (by have := HSR3.out; omega) HDD3.out 9)
                  clear hO hK hB hI c15 c16 c9 hcw hge hge2
                  gi_wp2
                  go_roundw
                  case rel => have h9 := HS.out; push_cast at h9; exact h9
                  case measure => simp [intOf]; omega
                · have HE := Lib.hid (bd_end hK hB hI HW163.out.1 ((n : Int) + 1) c (.int .i64 ((n : Int) + 1)) (by push_cast; rfl))
                  have KE := KR3.out.kp HIT.out HKO3.out HE.out.2.2.k HE.out.2.2.bl
                  have d16 := hI.x.cell (j := 0) (v := .int .i64 (n : Int)) rfl
                  have g16 := hI.x.frozen 0
                  have d15 := (X153.out.kp HE.out.2.2.k (by simpa using HW163.out.2)).cell (j := 0) (v := .int .i64 1) rfl
                  have e16 := HE.out.2.2.x.cell (j := 0) (v := .int .i64 ((n + 1 : Nat) : Int)) rfl
                  push_cast at e16
                  have d7 := KE.x7.cell (j := 0) (v := .int .i64 a3) rfl
                  clear hO hK hB hI KE c15 c16 c9 hcw hge hge2
                  gi_wp2
                  exact ⟨HE.out.1, HE.out.2.1, trivial, by rw [List.length_append, HNE.out]; exact HE.out.2.2⟩
            case done3 =>
              rintro D2 ys W hD hys ⟨hC, hI⟩ hK
              rw [hys] at hI
              clear hys
              have hnn : (((N : Nat) : Int) != ((N : Nat) : Int)) = false := bne_f rfl
              have KWH3 := Lib.hid (KR3.out.kp HIT.out HKO3.out hI.k hI.bl)
              have c15 := (X153.out.kp hI.k (by simpa using HW163.out.2)).cell (j := 0) (v := .int .i64 1) rfl
              have c16 := hI.x.cell (j := 0) (v := .int .i64 ((N : Nat) : Int)) rfl
              have c7 := KWH3.out.x7.cell (j := 0) (v := .int .i64 a3) rfl
              have c9 := KWH3.out.x9.cell (j := 0) (v := .slice Aw N cw) rfl
              have HKI3 := Lib.hid hI.k
              have HKD3 := Lib.hid hK
              have HD2D : Hid (W.heap[D]? = some (.deferred (some []))) := Lib.hid (hI.d D rfl)
              have HBLW := Lib.hid hI.bl
              have hsk := HSR3.out
              have hwk := HW163.out.1
              have hw7 := HKO3.out.h7
              have hdv := heap_lt' HDW.out
              have hlo := HDlo.out
              have hx9 := HX9LT.out
              have hz9 := HZ9.out
              have hs1 : w.heap.size + 1 < D2 := by omega
              have hs2 : w.heap.size + 1 < D := by omega
              have hs3 : D < D2 := by omega
              clear hI hK hC hsk hwk hw7 hdv hlo hx9 hz9
              dsimp only
              go_wp2_with fail
              rw [rounds_succ]
              go_wp2_with fail
              refine (works_any _).mono ?_
              rintro e w20 ⟨rfl, hB20⟩
              have hb20 : Below W.heap.size W w20 := ((Below.refl _ W).alloc (Nat.le_refl _) _).trans (hB20.mono (by simp))
              have z8 := KWH3.out.x8.below hb20
              have c8 := z8.cell (j := 0) (v := .bool false) rfl
              have f8 := z8.frozen 0
              have Z8 := Lib.hid (z8.set 0 (.bool true))
              have d2 : (w20.setCell ⟨w.heap.size + 1, 0, none⟩ (.bool true)).heap[D2]? = some (.deferred (some [])) := (KeepsOthers.setCell w20 _ _).same D2 _ ((hb20.block D2 (heap_lt' HKD3.out)).trans HKD3.out) rfl
              have d1 : (w20.setCell ⟨w.heap.size + 1, 0, none⟩ (.bool true)).heap[D]? = some (.deferred (some [])) := (KeepsOthers.setCell w20 _ _).same D _ ((hb20.block D (heap_lt' HD2D.out)).trans HD2D.out) rfl
              have hbl := (HBLW.out.trans (hb20.mono HBLW.out.size)).setCell (p := ⟨w.heap.size + 1, 0, none⟩) (Nat.le_succ _) (.bool true)
              have hbl2 := hbl.grown (grownBy_putObj' _ D2 (.deferred none)) hbl.size (fun r e => by cases e; omega)
              have hbl3 := hbl2.grown (grownBy_putObj' _ D (.deferred none)) hbl2.size (fun r e => by cases e; omega)
              have HD1 := Lib.hid d1
              have HD2 := Lib.hid d2
              have HBL3 := Lib.hid hbl3
              have hdd : D ≠ D2 := by omega
              have hd8 : w.heap.size + 1 ≠ D2 ∧ w.heap.size + 1 ≠ D := by omega
              clear hb20 z8 hB20 d1 d2 hbl hbl2 hbl3
              go_wp2
              have b6 := ((Z8.out.grown (grownBy_putObj' _ D2 (.deferred none)) (by simpa using hd8.1)).grown (grownBy_putObj' _ D (.deferred none)) (by simpa using hd8.2))
              have l1 := load_bool b6
              refine ⟨by simp, .inl ⟨_, _, rfl, run_takeDeferred HD2.out, by simp, .inl ⟨_, _, rfl, run_takeDeferred ((World.putObj_heap_other (by omega)).trans HD1.out), ?_⟩⟩⟩
              refine ⟨.bool true, ?_, rfl, HBL3.out⟩
              rw [results_c rfl]
              simp [asAddr, l1, Sem.run_pure]
            case stop3 =>
              rintro D2 c pre W hD hpk ⟨rfl, hC, hI⟩ hK
              exact hC.elim
        · by_cases hm : a3 ≤ 1
          · dsimp only
            go_wp2_with fail
            obtain ⟨Wu, hWu⟩ : ∃ Wu, Wu = W.alloc (.cells #[.int .i64 1] 3) := ⟨_, rfl⟩
            have x15 : Blk Wu W.heap.size 3 [.int .i64 1] := by rw [hWu]; exact Blk.new W [.int .i64 1] 3 rfl
            have kt : KpF w.heap.size (w.heap.size + 1) b9 a3 Aw N cw L Fw w Wu := by rw [hWu]; exact KWH.out.below HIT.out ((Below.refl _ W).alloc (Nat.le_refl _) _)
            have HDt : Hid (Wu.heap[D]? = some (.deferred (some []))) := Lib.hid (by rw [hWu]; exact heap_old' HKD.out)
            have hst : Wu.heap.size = W.heap.size + 1 := by rw [hWu]; simp
            have hwsz := HKI.out.1
            have hsr0 := HSR.out
            have h15 : w9.heap.size ≤ W.heap.size := by omega
            have HDlo : Hid (w9.heap.size ≤ D) := Lib.hid (by omega)
            rw [← hWu]
            clear hWu c15 c16 c7 c9 hD
            try clear hn0
            try clear hm
            try clear hl
            try clear h0
            generalize W.heap.size = b17 at *
            rw [rounds_succ]
            have c15 := x15.cell (j := 0) (v := .int .i64 1) rfl
            go_wp2_with fail
            obtain ⟨Wv, hWr⟩ : ∃ Wv, Wv = Wu.alloc (.cells #[.int .i64 0] 3) := ⟨_, rfl⟩
            have hbW : Below Wu.heap.size Wu Wv := by rw [hWr]; exact (Below.refl _ Wu).alloc (Nat.le_refl _) _
            have x16 : Blk Wv (b17 + 1) 3 [.int .i64 ((0 : Nat) : Int)] := by rw [hWr]; exact Blk.new Wu [.int .i64 0] 3 hst.symm
            have X154 := Lib.hid (x15.below hbW)
            have KR4 := Lib.hid (kt.below HIT.out hbW)
            have hsr : Wv.heap.size = Wu.heap.size + 1 := by rw [hWr]; simp
            have HDW : Hid (Wv.heap[D]? = some (.deferred (some []))) := Lib.hid ((hbW.block D (heap_lt' HDt.out)).trans HDt.out)
            have hdv := heap_lt' HDW.out
            rw [← hWr]
            clear hWr hbW x15 kt c15
            have hsr : Wv.heap.size = b17 + 1 + 1 := by rw [hsr, hst]
            clear hst
            generalize hb16 : b17 + 1 = b18 at *
            have h16 : b17 < b18 := by omega
            clear hb16
            have HKO4 : Hid (KpO w.heap.size (w.heap.size + 1) b9 Aw L Ok b18) := Lib.hid ⟨by omega, by omega, by omega, fun a ha => by have := HAW.out a ha; omega, fun s hs a ha => by have := HAR.out s hs a ha; omega, HFR.out _ (by omega)⟩
            have HW164 : Hid (w.heap.size ≤ b18 ∧ b17 ≠ b18) := Lib.hid ⟨by omega, by omega⟩
            have HSR4 : Hid (Wv.heap.size = b18 + 1) := Lib.hid (by omega)
            have HX164 := Lib.hid x16
            have HDD4 : Hid (∀ X, (some D) = some X → X < Wv.heap.size) := Lib.hid (fun D e => by cases e; omega)
            refine (wpIn_wide (n := 3)).1 ?_
            refine' rangeG (w0 := Wv) (gf := 59) (lb := lb) rfl (enters_of Tryz.func59 (by kernel_rfl) rfl) (HIT.out.seq b18 _ Wv HKO4.out.ok HX164.out KR4.out.fw) (fun B pre x W l o o' hk h1 h2 => hk.put o' h1 h2) KpQ.trans (fun x W l o o' hl h1 h2 => KpQ.put o' h1 h2) (Below.refl _ _) (fun _ => rfl)
              (Lp0 w Wv b18 (some D) (fun _ => True)) (Lpx w Wv b18 (some D) (fun _ => False) 4) (Lp0.cl (by omega) (by omega) (fun D e => by cases e; omega)) (fun c => Lpx.cl (by omega) (by omega) (fun D e => by cases e; omega) c) ⟨trivial, ⟨x16, KpB.refl _ _, KR4.out.bl, fun D e => by cases e; exact HDW.out⟩⟩ _ ?assign4 ?body4 ?done4 ?stop4
            case assign4 =>
              intro l x W K hK
              unfold encH
              gi_wp2
              exact hK
            case body4 =>
              rintro l pre ⟨x1, R, c⟩ W ⟨hC, hI⟩ ⟨hpl, hx1, hO⟩
              dsimp only
              obtain ⟨n, hn⟩ : ∃ n, pre.length = n := ⟨_, rfl⟩
              rw [hn] at hI hpl hx1 hO
              have hx1 : x1 = (n : Int) + 1 := hx1
              have hO : Own .u8 5 W (Wv.heap.size + 2) R k c (decN vs k n) := hO
              subst hx1
              have KW := KR4.out.kp HIT.out HKO4.out hI.k hI.bl
              have hnN : n < N := hpl
              have h15k := X154.out.kp hI.k (by simpa using HW164.out.2)
              have c15 := h15k.cell (j := 0) (v := .int .i64 1) rfl
              have c16 := hI.x.cell (j := 0) (v := .int .i64 (n : Int)) rfl
              have c9 := KW.x9.cell (j := 0) (v := .slice Aw N cw) rfl
              obtain ⟨s, hs⟩ : ∃ s, L[n]? = some s := ⟨_, List.getElem?_eq_getElem (by rw [HLN.out]; exact hpl)⟩
              have hsr := HRW.out n s hs
              have hcw : W.cell? (adr Aw n) = some (.slice s.A s.n s.c) := KW.r.at_ n s.v (by rw [List.getElem?_map, hs]; rfl)
              have hixw := fun W => Rdv.ix KW.r el100 hnN .i64 W
              have HSS := Lib.hid (same_self R s.A k c s.n s.c (decN vs k n) W (Own.rd hO) (by rw [← hsr.2]; exact KW.rr s (List.mem_of_getElem? hs)))
              have HO := Lib.hid hO
              have HI := Lib.hid hI
              have HC := Lib.hid hC
              have HNN := Lib.hid hnN
              have HNE := Lib.hid hn
              have n15 := HW164.out.2
              have hge : decide ((n : Int) ≥ (N : Int)) = false := by simp; omega
              have hge2 : ¬ ((N : Int) ≤ (n : Int)) := by omega
              have hnb : (n : Int) + 1 ≤ 1000 := by have := HM64.out; omega
              have wn : IntKind.i64.wrap ((n : Int) + 1) = (n : Int) + 1 := IntWalk.i64_in _ (by omega)
              clear hsr hI hC KW h15k hpl hO hs hnb hn
              gi_wp2_with ((with_reducible refine callR ?_); refine HSS.out.mono ?_; rintro en W1 ⟨rfl, rfl⟩)
              gi_loopw [17] (fun i wr => BdI k R c w Wv b18 (some D) n W i wr) (fun i _ => k - (intOf i).toNat)
              case atStart => exact ⟨0, _, Nat.zero_le _, rfl, HO.out, KeepsOthers.refl _, KpB.refl _ _, HI.out⟩
              case round =>
                obtain ⟨j, cur, hj, rfl, hO, hK, hB, hI⟩ := hrel
                by_cases hlt : j < k
                · have hf := Ownv.frozen hO (by have := (Own.rd hO).le; omega) j
                  have hix := fun W => Rdv.ix (Own.rd hO) el26 hlt .i64 W
                  have hcj := Rd.cell (Own.rd hO) hlt
                  have HS := Lib.hid (BdI.step hlt hO hK hB hI (by have := HSR4.out; have := HW164.out.1; omega) (by have := HSR4.out; omega) HDD4.out 9)
                  clear hO hK hB hI c15 c16 c9 hcw hge hge2
                  gi_wp2
                  go_roundw
                  case rel => have h9 := HS.out; push_cast at h9; exact h9
                  case measure => simp [intOf]; omega
                · have HE := Lib.hid (bd_end hK hB hI HW164.out.1 ((n : Int) + 1) c (.int .i64 ((n : Int) + 1)) (by push_cast; rfl))
                  have KE := KR4.out.kp HIT.out HKO4.out HE.out.2.2.k HE.out.2.2.bl
                  have d16 := hI.x.cell (j := 0) (v := .int .i64 (n : Int)) rfl
                  have g16 := hI.x.frozen 0
                  have d15 := (X154.out.kp HE.out.2.2.k (by simpa using HW164.out.2)).cell (j := 0) (v := .int .i64 1) rfl
                  have e16 := HE.out.2.2.x.cell (j := 0) (v := .int .i64 ((n + 1 : Nat) : Int)) rfl
                  push_cast at e16
                  have d7 := KE.x7.cell (j := 0) (v := .int .i64 a3) rfl
                  clear hO hK hB hI KE c15 c16 c9 hcw hge hge2
                  gi_wp2
                  exact ⟨HE.out.1, HE.out.2.1, trivial, by rw [List.length_append, HNE.out]; exact HE.out.2.2⟩
            case done4 =>
              rintro D2 ys W hD hys ⟨hC, hI⟩ hK
              rw [hys] at hI
              clear hys
              have hnn : (((N : Nat) : Int) != ((N : Nat) : Int)) = false := bne_f rfl
              have KWH4 := Lib.hid (KR4.out.kp HIT.out HKO4.out hI.k hI.bl)
              have c15 := (X154.out.kp hI.k (by simpa using HW164.out.2)).cell (j := 0) (v := .int .i64 1) rfl
              have c16 := hI.x.cell (j := 0) (v := .int .i64 ((N : Nat) : Int)) rfl
              have c7 := KWH4.out.x7.cell (j := 0) (v := .int .i64 a3) rfl
              have c9 := KWH4.out.x9.cell (j := 0) (v := .slice Aw N cw) rfl
              have HKI4 := Lib.hid hI.k
              have HKD4 := Lib.hid hK
              have HD2D : Hid (W.heap[D]? = some (.deferred (some []))) := Lib.hid (hI.d D rfl)
              have HBLW := Lib.hid hI.bl
              have hsk := HSR4.out
              have hwk := HW164.out.1
              have hw7 := HKO4.out.h7
              have hdv := heap_lt' HDW.out
              have hlo := HDlo.out
              have hx9 := HX9LT.out
              have hz9 := HZ9.out
              have hs1 : w.heap.size + 1 < D2 := by omega
              have hs2 : w.heap.size + 1 < D := by omega
              have hs3 : D < D2 := by omega
              clear hI hK hC hsk hwk hw7 hdv hlo hx9 hz9
              dsimp only
              go_wp2_with fail
              rw [rounds_succ]
              go_wp2_with fail
              refine (works_any _).mono ?_
              rintro e w20 ⟨rfl, hB20⟩
              have hb20 : Below W.heap.size W w20 := ((Below.refl _ W).alloc (Nat.le_refl _) _).trans (hB20.mono (by simp))
              have z8 := KWH4.out.x8.below hb20
              have c8 := z8.cell (j := 0) (v := .bool false) rfl
              have f8 := z8.frozen 0
              have Z8 := Lib.hid (z8.set 0 (.bool true))
              have d2 : (w20.setCell ⟨w.heap.size + 1, 0, none⟩ (.bool true)).heap[D2]? = some (.deferred (some [])) := (KeepsOthers.setCell w20 _ _).same D2 _ ((hb20.block D2 (heap_lt' HKD4.out)).trans HKD4.out) rfl
              have d1 : (w20.setCell ⟨w.heap.size + 1, 0, none⟩ (.bool true)).heap[D]? = some (.deferred (some [])) := (KeepsOthers.setCell w20 _ _).same D _ ((hb20.block D (heap_lt' HD2D.out)).trans HD2D.out) rfl
              have hbl := (HBLW.out.trans (hb20.mono HBLW.out.size)).setCell (p := ⟨w.heap.size + 1, 0, none⟩) (Nat.le_succ _) (.bool true)
              have hbl2 := hbl.grown (grownBy_putObj' _ D2 (.deferred none)) hbl.size (fun r e => by cases e; omega)
              have hbl3 := hbl2.grown (grownBy_putObj' _ D (.deferred none)) hbl2.size (fun r e => by cases e; omega)
              have HD1 := Lib.hid d1
              have HD2 := Lib.hid d2
              have HBL3 := Lib.hid hbl3
              have hdd : D ≠ D2 := by omega
              have hd8 : w.heap.size + 1 ≠ D2 ∧ w.heap.size + 1 ≠ D := by omega
              clear hb20 z8 hB20 d1 d2 hbl hbl2 hbl3
              go_wp2
              have b6 := ((Z8.out.grown (grownBy_putObj' _ D2 (.deferred none)) (by simpa using hd8.1)).grown (grownBy_putObj' _ D (.deferred none)) (by simpa using hd8.2))
              have l1 := load_bool b6
              refine ⟨by simp, .inl ⟨_, _, rfl, run_takeDeferred HD2.out, by simp, .inl ⟨_, _, rfl, run_takeDeferred ((World.putObj_heap_other (by omega)).trans HD1.out), ?_⟩⟩⟩
              refine ⟨.bool true, ?_, rfl, HBL3.out⟩
              rw [results_c rfl]
              simp [asAddr, l1, Sem.run_pure]
            case stop4 =>
              rintro D2 c pre W hD hpk ⟨rfl, hC, hI⟩ hK
              exact hC.elim
          · dsimp only
            go_wp2_with fail
            obtain ⟨Wu, hWu⟩ : ∃ Wu, Wu = W.alloc (.cells #[.int .i64 1] 3) := ⟨_, rfl⟩
            have x15 : Blk Wu W.heap.size 3 [.int .i64 1] := by rw [hWu]; exact Blk.new W [.int .i64 1] 3 rfl
            have kt : KpF w.heap.size (w.heap.size + 1) b9 a3 Aw N cw L Fw w Wu := by rw [hWu]; exact KWH.out.below HIT.out ((Below.refl _ W).alloc (Nat.le_refl _) _)
            have HDt : Hid (Wu.heap[D]? = some (.deferred (some []))) := Lib.hid (by rw [hWu]; exact heap_old' HKD.out)
            have hst : Wu.heap.size = W.heap.size + 1 := by rw [hWu]; simp
            have hwsz := HKI.out.1
            have hsr0 := HSR.out
            have h15 : w9.heap.size ≤ W.heap.size := by omega
            have HDlo : Hid (w9.heap.size ≤ D) := Lib.hid (by omega)
            rw [← hWu]
            clear hWu c15 c16 c7 c9 hD
            try clear hn0
            try clear hm
            try clear hl
            try clear h0
            generalize W.heap.size = b17 at *
            rw [rounds_succ]
            have c15 := x15.cell (j := 0) (v := .int .i64 1) rfl
            go_wp2_with fail
            obtain ⟨Wv, hWr⟩ : ∃ Wv, Wv = Wu.alloc (.cells #[.int .i64 0] 3) := ⟨_, rfl⟩
            have hbW : Below Wu.heap.size Wu Wv := by rw [hWr]; exact (Below.refl _ Wu).alloc (Nat.le_refl _) _
            have x16 : Blk Wv (b17 + 1) 3 [.int .i64 ((0 : Nat) : Int)] := by rw [hWr]; exact Blk.new Wu [.int .i64 0] 3 hst.symm
            have X155 := Lib.hid (x15.below hbW)
            have KR5 := Lib.hid (kt.below HIT.out hbW)
            have hsr : Wv.heap.size = Wu.heap.size + 1 := by rw [hWr]; simp
            have HDW : Hid (Wv.heap[D]? = some (.deferred (some []))) := Lib.hid ((hbW.block D (heap_lt' HDt.out)).trans HDt.out)
            have hdv := heap_lt' HDW.out
            rw [← hWr]
            clear hWr hbW x15 kt c15
            have hsr : Wv.heap.size = b17 + 1 + 1 := by rw [hsr, hst]
            clear hst
            generalize hb16 : b17 + 1 = b18 at *
            have h16 : b17 < b18 := by omega
            clear hb16
            have HKO5 : Hid (KpO w.heap.size (w.heap.size + 1) b9 Aw L Ok b18) := Lib.hid ⟨by omega, by omega, by omega, fun a ha => by have := HAW.out a ha; omega, fun s hs a ha => by have := HAR.out s hs a ha; omega, HFR.out _ (by omega)⟩
            have HW165 : Hid (w.heap.size ≤ b18 ∧ b17 ≠ b18) := Lib.hid ⟨by omega, by omega⟩
            have HSR5 : Hid (Wv.heap.size = b18 + 1) := Lib.hid (by omega)
            have HX165 := Lib.hid x16
            have HDD5 : Hid (∀ X, (some D) = some X → X < Wv.heap.size) := Lib.hid (fun D e => by cases e; omega)
            refine (wpIn_wide (n := 3)).1 ?_
            refine' rangeG (w0 := Wv) (gf := 59) (lb := lb) rfl (enters_of Tryz.func59 (by kernel_rfl) rfl) (HIT.out.seq b18 _ Wv HKO5.out.ok HX165.out KR5.out.fw) (fun B pre x W l o o' hk h1 h2 => hk.put o' h1 h2) KpQ.trans (fun x W l o o' hl h1 h2 => KpQ.put o' h1 h2) (Below.refl _ _) (fun _ => rfl)
              (Lp0 w Wv b18 (some D) (fun _ => True)) (Lpx w Wv b18 (some D) (fun _ => False) 4) (Lp0.cl (by omega) (by omega) (fun D e => by cases e; omega)) (fun c => Lpx.cl (by omega) (by omega) (fun D e => by cases e; omega) c) ⟨trivial, ⟨x16, KpB.refl _ _, KR5.out.bl, fun D e => by cases e; exact HDW.out⟩⟩ _ ?assign5 ?body5 ?done5 ?stop5
            case assign5 =>
              intro l x W K hK
              unfold encH
              gi_wp2
              exact hK
            case body5 =>
              rintro l pre ⟨x1, R, c⟩ W ⟨hC, hI⟩ ⟨hpl, hx1, hO⟩
              dsimp only
              obtain ⟨n, hn⟩ : ∃ n, pre.length = n := ⟨_, rfl⟩
              rw [hn] at hI hpl hx1 hO
              have hx1 : x1 = (n : Int) + 1 := hx1
              have hO : Own .u8 5 W (Wv.heap.size + 2) R k c (decN vs k n) := hO
              subst hx1
              have KW := KR5.out.kp HIT.out HKO5.out hI.k hI.bl
              have hnN : n < N := hpl
              have h15k := X155.out.kp hI.k (by simpa using HW165.out.2)
              have c15 := h15k.cell (j := 0) (v := .int .i64 1) rfl
              have c16 := hI.x.cell (j := 0) (v := .int .i64 (n : Int)) rfl
              have c9 := KW.x9.cell (j := 0) (v := .slice Aw N cw) rfl
              obtain ⟨s, hs⟩ : ∃ s, L[n]? = some s := ⟨_, List.getElem?_eq_getElem (by rw [HLN.out]; exact hpl)⟩
              have hsr := HRW.out n s hs
              have hcw : W.cell? (adr Aw n) = some (.slice s.A s.n s.c) := KW.r.at_ n s.v (by rw [List.getElem?_map, hs]; rfl)
              have hixw := fun W => Rdv.ix KW.r el100 hnN .i64 W
              have HSS := Lib.hid (same_self R s.A k c s.n s.c (decN vs k n) W (Own.rd hO) (by rw [← hsr.2]; exact KW.rr s (List.mem_of_getElem? hs)))
              have HO := Lib.hid hO
              have HI := Lib.hid hI
              have HC := Lib.hid hC
              have HNN := Lib.hid hnN
              have HNE := Lib.hid hn
              have n15 := HW165.out.2
              have hge : decide ((n : Int) ≥ (N : Int)) = false := by simp; omega
              have hge2 : ¬ ((N : Int) ≤ (n : Int)) := by omega
              have hnb : (n : Int) + 1 ≤ 1000 := by have := HM64.out; omega
              have wn : IntKind.i64.wrap ((n : Int) + 1) = (n : Int) + 1 := IntWalk.i64_in _ (by omega)
              clear hsr hI hC KW h15k hpl hO hs hnb hn
              gi_wp2_with ((with_reducible refine callR ?_); refine HSS.out.mono ?_; rintro en W1 ⟨rfl, rfl⟩)
              gi_loopw [17] (fun i wr => BdI k R c w Wv b18 (some D) n W i wr) (fun i _ => k - (intOf i).toNat)
              case atStart => exact ⟨0, _, Nat.zero_le _, rfl, HO.out, KeepsOthers.refl _, KpB.refl _ _, HI.out⟩
              case round =>
                obtain ⟨j, cur, hj, rfl, hO, hK, hB, hI⟩ := hrel
                by_cases hlt : j < k
                · have hf := Ownv.frozen hO (by have := (Own.rd hO).le; omega) j
                  have hix := fun W => Rdv.ix (Own.rd hO) el26 hlt .i64 W
                  have hcj := Rd.cell (Own.rd hO) hlt
                  have HS := Lib.hid (BdI.step hlt hO hK hB hI (by have := HSR5.out; have := HW165.out.1; omega) (by have := HSR5.out; omega) HDD5.out 9)
                  clear hO hK hB hI c15 c16 c9 hcw hge hge2
                  gi_wp2
                  go_roundw
                  case rel => have h9 := HS.out; push_cast at h9; exact h9
                  case measure => simp [intOf]; omega
                · have HE := Lib.hid (bd_end hK hB hI HW165.out.1 ((n : Int) + 1) c (.int .i64 ((n : Int) + 1)) (by push_cast; rfl))
                  have KE := KR5.out.kp HIT.out HKO5.out HE.out.2.2.k HE.out.2.2.bl
                  have d16 := hI.x.cell (j := 0) (v := .int .i64 (n : Int)) rfl
                  have g16 := hI.x.frozen 0
                  have d15 := (X155.out.kp HE.out.2.2.k (by simpa using HW165.out.2)).cell (j := 0) (v := .int .i64 1) rfl
                  have e16 := HE.out.2.2.x.cell (j := 0) (v := .int .i64 ((n + 1 : Nat) : Int)) rfl
                  push_cast at e16
                  have d7 := KE.x7.cell (j := 0) (v := .int .i64 a3) rfl
                  clear hO hK hB hI KE c15 c16 c9 hcw hge hge2
                  gi_wp2
                  exact ⟨HE.out.1, HE.out.2.1, trivial, by rw [List.length_append, HNE.out]; exact HE.out.2.2⟩
            case done5 =>
              rintro D2 ys W hD hys ⟨hC, hI⟩ hK
              rw [hys] at hI
              clear hys
              have hnn : (((N : Nat) : Int) != ((N : Nat) : Int)) = false := bne_f rfl
              have KWH5 := Lib.hid (KR5.out.kp HIT.out HKO5.out hI.k hI.bl)
              have c15 := (X155.out.kp hI.k (by simpa using HW165.out.2)).cell (j := 0) (v := .int .i64 1) rfl
              have c16 := hI.x.cell (j := 0) (v := .int .i64 ((N : Nat) : Int)) rfl
              have c7 := KWH5.out.x7.cell (j := 0) (v := .int .i64 a3) rfl
              have c9 := KWH5.out.x9.cell (j := 0) (v := .slice Aw N cw) rfl
              have HKI5 := Lib.hid hI.k
              have HKD5 := Lib.hid hK
              have HD2D : Hid (W.heap[D]? = some (.deferred (some []))) := Lib.hid (hI.d D rfl)
              have HBLW := Lib.hid hI.bl
              have hsk := HSR5.out
              have hwk := HW165.out.1
              have hw7 := HKO5.out.h7
              have hdv := heap_lt' HDW.out
              have hlo := HDlo.out
              have hx9 := HX9LT.out
              have hz9 := HZ9.out
              have hs1 : w.heap.size + 1 < D2 := by omega
              have hs2 : w.heap.size + 1 < D := by omega
              have hs3 : D < D2 := by omega
              clear hI hK hC hsk hwk hw7 hdv hlo hx9 hz9
              dsimp only
              go_wp2_with fail
              rw [rounds_succ]
              go_wp2_with fail
              refine (works_any _).mono ?_
              rintro e w20 ⟨rfl, hB20⟩
              have hb20 : Below W.heap.size W w20 := ((Below.refl _ W).alloc (Nat.le_refl _) _).trans (hB20.mono (by simp))
              have z8 := KWH5.out.x8.below hb20
              have c8 := z8.cell (j := 0) (v := .bool false) rfl
              have f8 := z8.frozen 0
              have Z8 := Lib.hid (z8.set 0 (.bool true))
              have d2 : (w20.setCell ⟨w.heap.size + 1, 0, none⟩ (.bool true)).heap[D2]? = some (.deferred (some [])) := (KeepsOthers.setCell w20 _ _).same D2 _ ((hb20.block D2 (heap_lt' HKD5.out)).trans HKD5.out) rfl
              have d1 : (w20.setCell ⟨w.heap.size + 1, 0, none⟩ (.bool true)).heap[D]? = some (.deferred (some [])) := (KeepsOthers.setCell w20 _ _).same D _ ((hb20.block D (heap_lt' HD2D.out)).trans HD2D.out) rfl
              have hbl := (HBLW.out.trans (hb20.mono HBLW.out.size)).setCell (p := ⟨w.heap.size + 1, 0, none⟩) (Nat.le_succ _) (.bool true)
              have hbl2 := hbl.grown (grownBy_putObj' _ D2 (.deferred none)) hbl.size (fun r e => by cases e; omega)
              have hbl3 := hbl2.grown (grownBy_putObj' _ D (.deferred none)) hbl2.size (fun r e => by cases e; omega)
              have HD1 := Lib.hid d1
              have HD2 := Lib.hid d2
              have HBL3 := Lib.hid hbl3
              have hdd : D ≠ D2 := by omega
              have hd8 : w.heap.size + 1 ≠ D2 ∧ w.heap.size + 1 ≠ D := by omega
              clear hb20 z8 hB20 d1 d2 hbl hbl2 hbl3
              go_wp2
              have b6 := ((Z8.out.grown (grownBy_putObj' _ D2 (.deferred none)) (by simpa using hd8.1)).grown (grownBy_putObj' _ D (.deferred none)) (by simpa using hd8.2))
              have l1 := load_bool b6
              refine ⟨by simp, .inl ⟨_, _, rfl, run_takeDeferred HD2.out, by simp, .inl ⟨_, _, rfl, run_takeDeferred ((World.putObj_heap_other (by omega)).trans HD1.out), ?_⟩⟩⟩
              refine ⟨.bool true, ?_, rfl, HBL3.out⟩
              rw [results_c rfl]
              simp [asAddr, l1, Sem.run_pure]
            case stop5 =>
              rintro D2 c pre W hD hpk ⟨rfl, hC, hI⟩ hK
              exact hC.elim
      case stop =>
        rintro D c pre W hD hpk ⟨rfl, hC, hI⟩ hK
        refine wpIn_wide.2 ?_
        obtain ⟨nx, hn⟩ : ∃ nx, pre.length = nx := ⟨_, rfl⟩
        rw [hn] at hC hI
        clear hn hpk
        have KWH := Lib.hid (KR.out.kp HIT.out HKO.out hI.k hI.bl)
        have c15 := (X15.out.kp hI.k (by simpa using HW16.out.2)).cell (j := 0) (v := .int .i64 0) rfl
        have c16 := hI.x.cell (j := 0) (v := .int .i64 ((nx : Nat) : Int)) rfl
        have c7 := KWH.out.x7.cell (j := 0) (v := .int .i64 a3) rfl
        have c9 := KWH.out.x9.cell (j := 0) (v := .slice Aw N cw) rfl
        have HKI := Lib.hid hI.k
        have HKD := Lib.hid hK
        clear hI hK
        obtain ⟨q1, q2, q3, q4⟩ := hC
        by_cases hm : a3 ≤ 1
        · obtain rfl : nx = 1 := by omega
          by_cases hl : N = 1
          · dsimp only
            go_wp2_with fail
            obtain ⟨Wu, hWu⟩ : ∃ Wu, Wu = W.alloc (.cells #[.int .i64 1] 3) := ⟨_, rfl⟩
            have x15 : Blk Wu W.heap.size 3 [.int .i64 1] := by rw [hWu]; exact Blk.new W [.int .i64 1] 3 rfl
            have kt : KpF w.heap.size (w.heap.size + 1) b9 a3 Aw N cw L Fw w Wu := by rw [hWu]; exact KWH.out.below HIT.out ((Below.refl _ W).alloc (Nat.le_refl _) _)
            have HDt : Hid (Wu.heap[D]? = some (.deferred (some []))) := Lib.hid (by rw [hWu]; exact heap_old' HKD.out)
            have hst : Wu.heap.size = W.heap.size + 1 := by rw [hWu]; simp
            have hwsz := HKI.out.1
            have hsr0 := HSR.out
            have h15 : w9.heap.size ≤ W.heap.size := by omega
            have HDlo : Hid (w9.heap.size ≤ D) := Lib.hid (by omega)
            rw [← hWu]
            clear hWu c15 c16 c7 c9 hD
            try clear hn0
            try clear hm
            try clear hl
            try clear h0
            generalize W.heap.size = b17 at *
            rw [rounds_succ]
            have c15 := x15.cell (j := 0) (v := .int .i64 1) rfl
            go_wp2_with fail
            obtain ⟨Wv, hWr⟩ : ∃ Wv, Wv = Wu.alloc (.cells #[.int .i64 0] 3) := ⟨_, rfl⟩
            have hbW : Below Wu.heap.size Wu Wv := by rw [hWr]; exact (Below.refl _ Wu).alloc (Nat.le_refl _) _
            have x16 : Blk Wv (b17 + 1) 3 [.int .i64 ((0 : Nat) : Int)] := by rw [hWr]; exact Blk.new Wu [.int .i64 0] 3 hst.symm
            have X156 := Lib.hid (x15.below hbW)
            have KR6 := Lib.hid (kt.below HIT.out hbW)
            have hsr : Wv.heap.size = Wu.heap.size + 1 := by rw [hWr]; simp
            have HDW : Hid (Wv.heap[D]? = some (.deferred (some []))) := Lib.hid ((hbW.block D (heap_lt' HDt.out)).trans HDt.out)
            have hdv := heap_lt' HDW.out
            rw [← hWr]
            clear hWr hbW x15 kt c15
            have hsr : Wv.heap.size = b17 + 1 + 1 := by rw [hsr, hst]
            clear hst
            generalize hb16 : b17 + 1 = b18 at *
            have h16 : b17 < b18 := by omega
            clear hb16
            have HKO6 : Hid (KpO w.heap.size (w.heap.size + 1) b9 Aw L Ok b18) := Lib.hid ⟨by omega, by omega, by omega, fun a ha => by have := HAW.out a ha; omega, fun s hs a ha => by have := HAR.out s hs a ha; omega, HFR.out _ (by omega)⟩
            have HW166 : Hid (w.heap.size ≤ b18 ∧ b17 ≠ b18) := Lib.hid ⟨by omega, by omega⟩
            have HSR6 : Hid (Wv.heap.size = b18 + 1) := Lib.hid (by omega)
            have HX166 := Lib.hid x16
            have HDD6 : Hid (∀ X, (some D) = some X → X < Wv.heap.size) := Lib.hid (fun D e => by cases e; omega)
            refine (wpIn_wide (n := 3)).1 ?_
            refine' rangeG (w0 := Wv) (gf := 59) (lb := lb) rfl (enters_of Tryz.func59 (by kernel_rfl) rfl) (HIT.out.seq b18 _ Wv HKO6.out.ok HX166.out KR6.out.fw) (fun B pre x W l o o' hk h1 h2 => hk.put o' h1 h2) KpQ.trans (fun x W l o o' hl h1 h2 => KpQ.put o' h1 h2) (Below.refl _ _) (fun _ => rfl)
              (Lp0 w Wv b18 (some D) (fun _ => True)) (Lpx w Wv b18 (some D) (fun _ => False) 4) (Lp0.cl (by omega) (by omega) (fun D e => by cases e; omega)) (fun c => Lpx.cl (by omega) (by omega) (fun D e => by cases e; omega) c) ⟨trivial, ⟨x16, KpB.refl _ _, KR6.out.bl, fun D e => by cases e; exact HDW.out⟩⟩ _ ?assign6 ?body6 ?done6 ?stop6
            case assign6 =>
              intro l x W K hK
              unfold encH
              gi_wp2
              exact hK
            case body6 =>
              rintro l pre ⟨x1, R, c⟩ W ⟨hC, hI⟩ ⟨hpl, hx1, hO⟩
              dsimp only
              obtain ⟨n, hn⟩ : ∃ n, pre.length = n := ⟨_, rfl⟩
              rw [hn] at hI hpl hx1 hO
              have hx1 : x1 = (n : Int) + 1 := hx1
              have hO : Own .u8 5 W (Wv.heap.size + 2) R k c (decN vs k n) := hO
              subst hx1
              have KW := KR6.out.kp HIT.out HKO6.out hI.k hI.bl
              have hnN : n < N := hpl
              have h15k := X156.out.kp hI.k (by simpa using HW166.out.2)
              have c15 := h15k.cell (j := 0) (v := .int .i64 1) rfl
              have c16 := hI.x.cell (j := 0) (v := .int .i64 (n : Int)) rfl
              have c9 := KW.x9.cell (j := 0) (v := .slice Aw N cw) rfl
              obtain ⟨s, hs⟩ : ∃ s, L[n]? = some s := ⟨_, List.getElem?_eq_getElem (by rw [HLN.out]; exact hpl)⟩
              have hsr := HRW.out n s hs
              have hcw : W.cell? (adr Aw n) = some (.slice s.A s.n s.c) := KW.r.at_ n s.v (by rw [List.getElem?_map, hs]; rfl)
              have hixw := fun W => Rdv.ix KW.r el100 hnN .i64 W
              have HSS := Lib.hid (same_self R s.A k c s.n s.c (decN vs k n) W (Own.rd hO) (by rw [← hsr.2]; exact KW.rr s (List.mem_of_getElem? hs)))
              have HO := Lib.hid hO
              have HI := Lib.hid hI
              have HC := Lib.hid hC
              have HNN := Lib.hid hnN
              have HNE := Lib.hid hn
              have n15 := HW166.out.2
              have hge : decide ((n : Int) ≥ (N : Int)) = false := by simp; omega
              have hge2 : ¬ ((N : Int) ≤ (n : Int)) := by omega
              have hnb : (n : Int) + 1 ≤ 1000 := by have := HM64.out; omega
              have wn : IntKind.i64.wrap ((n : Int) + 1) = (n : Int) + 1 := IntWalk.i64_in _ (by omega)
              clear hsr hI hC KW h15k hpl hO hs hnb hn
              gi_wp2_with ((with_reducible refine callR ?_); refine HSS.out.mono ?_; rintro en W1 ⟨rfl, rfl⟩)
              gi_loopw [17] (fun i wr => BdI k R c w Wv b18 (some D) n W i wr) (fun i _ => k - (intOf i).toNat)
              case atStart => exact ⟨0, _, Nat.zero_le _, rfl, HO.out, KeepsOthers.refl _, KpB.refl _ _, HI.out⟩
              case round =>
                obtain ⟨j, cur, hj, rfl, hO, hK, hB, hI⟩ := hrel
                by_cases hlt : j < k
                · have hf := Ownv.frozen hO (by have := (Own.rd hO).le; omega) j
                  have hix := fun W => Rdv.ix (Own.rd hO) el26 hlt .i64 W
                  have hcj := Rd.cell (Own.rd hO) hlt
                  have HS := Lib.hid (BdI.step hlt hO hK hB hI (by have := HSR6.out; have := HW166.out.1; omega) (by have := HSR6.out; omega) HDD6.out 9)
                  clear hO hK hB hI c15 c16 c9 hcw hge hge2
                  gi_wp2
                  go_roundw
                  case rel => have h9 := HS.out; push_cast at h9; exact h9
                  case measure => simp [intOf]; omega
                · have HE := Lib.hid (bd_end hK hB hI HW166.out.1 ((n : Int) + 1) c (.int .i64 ((n : Int) + 1)) (by push_cast; rfl))
                  have KE := KR6.out.kp HIT.out HKO6.out HE.out.2.2.k HE.out.2.2.bl
                  have d16 := hI.x.cell (j := 0) (v := .int .i64 (n : Int)) rfl
                  have g16 := hI.x.frozen 0
                  have d15 := (X156.out.kp HE.out.2.2.k (by simpa using HW166.out.2)).cell (j := 0) (v := .int .i64 1) rfl
                  have e16 := HE.out.2.2.x.cell (j := 0) (v := .int .i64 ((n + 1 : Nat) : Int)) rfl
                  push_cast at e16
                  have d7 := KE.x7.cell (j := 0) (v := .int .i64 a3) rfl
                  clear hO hK hB hI KE c15 c16 c9 hcw hge hge2
                  gi_wp2
                  exact ⟨HE.out.1, HE.out.2.1, trivial, by rw [List.length_append, HNE.out]; exact HE.out.2.2⟩
            case done6 =>
              rintro D2 ys W hD hys ⟨hC, hI⟩ hK
              rw [hys] at hI
              clear hys
              have hnn : (((N : Nat) : Int) != ((N : Nat) : Int)) = false := bne_f rfl
              have KWH6 := Lib.hid (KR6.out.kp HIT.out HKO6.out hI.k hI.bl)
              have c15 := (X156.out.kp hI.k (by simpa using HW166.out.2)).cell (j := 0) (v := .int .i64 1) rfl
              have c16 := hI.x.cell (j := 0) (v := .int .i64 ((N : Nat) : Int)) rfl
              have c7 := KWH6.out.x7.cell (j := 0) (v := .int .i64 a3) rfl
              have c9 := KWH6.out.x9.cell (j := 0) (v := .slice Aw N cw) rfl
              have HKI6 := Lib.hid hI.k
              have HKD6 := Lib.hid hK
              have HD2D : Hid (W.heap[D]? = some (.deferred (some []))) := Lib.hid (hI.d D rfl)
              have HBLW := Lib.hid hI.bl
              have hsk := HSR6.out
              have hwk := HW166.out.1
              have hw7 := HKO6.out.h7
              have hdv := heap_lt' HDW.out
              have hlo := HDlo.out
              have hx9 := HX9LT.out
              have hz9 := HZ9.out
              have hs1 : w.heap.size + 1 < D2 := by omega
              have hs2 : w.heap.size + 1 < D := by omega
              have hs3 : D < D2 := by omega
              clear hI hK hC hsk hwk hw7 hdv hlo hx9 hz9
              dsimp only
              go_wp2_with fail
              rw [rounds_succ]
              go_wp2_with fail
              refine (works_any _).mono ?_
              rintro e w20 ⟨rfl, hB20⟩
              have hb20 : Below W.heap.size W w20 := ((Below.refl _ W).alloc (Nat.le_refl _) _).trans (hB20.mono (by simp))
              have z8 := KWH6.out.x8.below hb20
              have c8 := z8.cell (j := 0) (v := .bool false) rfl
              have f8 := z8.frozen 0
              have Z8 := Lib.hid (z8.set 0 (.bool true))
              have d2 : (w20.setCell ⟨w.heap.size + 1, 0, none⟩ (.bool true)).heap[D2]? = some (.deferred (some [])) := (KeepsOthers.setCell w20 _ _).same D2 _ ((hb20.block D2 (heap_lt' HKD6.out)).trans HKD6.out) rfl
              have d1 : (w20.setCell ⟨w.heap.size + 1, 0, none⟩ (.bool true)).heap[D]? = some (.deferred (some [])) := (KeepsOthers.setCell w20 _ _).same D _ ((hb20.block D (heap_lt' HD2D.out)).trans HD2D.out) rfl
              have hbl := (HBLW.out.trans (hb20.mono HBLW.out.size)).setCell (p := ⟨w.heap.size + 1, 0, none⟩) (Nat.le_succ _) (.bool true)
              have hbl2 := hbl.grown (grownBy_putObj' _ D2 (.deferred none)) hbl.size (fun r e => by cases e; omega)
              have hbl3 := hbl2.grown (grownBy_putObj' _ D (.deferred none)) hbl2.size (fun r e => by cases e; omega)
              have HD1 := Lib.hid d1
              have HD2 := Lib.hid d2
              have HBL3 := Lib.hid hbl3
              have hdd : D ≠ D2 := by omega
              have hd8 : w.heap.size + 1 ≠ D2 ∧ w.heap.size + 1 ≠ D := by omega
              clear hb20 z8 hB20 d1 d2 hbl hbl2 hbl3
              go_wp2
              have b6 := ((Z8.out.grown (grownBy_putObj' _ D2 (.deferred none)) (by simpa using hd8.1)).grown (grownBy_putObj' _ D (.deferred none)) (by simpa using hd8.2))
              have l1 := load_bool b6
              refine ⟨by simp, .inl ⟨_, _, rfl, run_takeDeferred HD2.out, by simp, .inl ⟨_, _, rfl, run_takeDeferred ((World.putObj_heap_other (by omega)).trans HD1.out), ?_⟩⟩⟩
              refine ⟨.bool true, ?_, rfl, HBL3.out⟩
              rw [results_c rfl]
              simp [asAddr, l1, Sem.run_pure]
            case stop6 =>
              rintro D2 c pre W hD hpk ⟨rfl, hC, hI⟩ hK
              exact hC.elim
          · dsimp only
            go_wp2_with fail
            obtain ⟨Wu, hWu⟩ : ∃ Wu, Wu = W.alloc (.cells #[.int .i64 1] 3) := ⟨_, rfl⟩
            have x15 : Blk Wu W.heap.size 3 [.int .i64 1] := by rw [hWu]; exact Blk.new W [.int .i64 1] 3 rfl
            have kt : KpF w.heap.size (w.heap.size + 1) b9 a3 Aw N cw L Fw w Wu := by rw [hWu]; exact KWH.out.below HIT.out ((Below.refl _ W).alloc (Nat.le_refl _) _)
            have HDt : Hid (Wu.heap[D]? = some (.deferred (some []))) := Lib.hid (by rw [hWu]; exact heap_old' HKD.out)
            have hst : Wu.heap.size = W.heap.size + 1 := by rw [hWu]; simp
            have hwsz := HKI.out.1
            have hsr0 := HSR.out
            have h15 : w9.heap.size ≤ W.heap.size := by omega
            have HDlo : Hid (w9.heap.size ≤ D) := Lib.hid (by omega)
            rw [← hWu]
            clear hWu c15 c16 c7 c9 hD
            try clear hn0
            try clear hm
            try clear hl
            try clear h0
            generalize W.heap.size = b17 at *
            rw [rounds_succ]
            have c15 := x15.cell (j := 0) (v := .int .i64 1) rfl
            go_wp2_with fail
            obtain ⟨Wv, hWr⟩ : ∃ Wv, Wv = Wu.alloc (.cells #[.int .i64 0] 3) := ⟨_, rfl⟩
            have hbW : Below Wu.heap.size Wu Wv := by rw [hWr]; exact (Below.refl _ Wu).alloc (Nat.le_refl _) _
            have x16 : Blk Wv (b17 + 1) 3 [.int .i64 ((0 : Nat) : Int)] := by rw [hWr]; exact Blk.new Wu [.int .i64 0] 3 hst.symm
            have X157 := Lib.hid (x15.below hbW)
            have KR7 := Lib.hid (kt.below HIT.out hbW)
            have hsr : Wv.heap.size = Wu.heap.size + 1 := by rw [hWr]; simp
            have HDW : Hid (Wv.heap[D]? = some (.deferred (some []))) := Lib.hid ((hbW.block D (heap_lt' HDt.out)).trans HDt.out)
            have hdv := heap_lt' HDW.out
            rw [← hWr]
            clear hWr hbW x15 kt c15
            have hsr : Wv.heap.size = b17 + 1 + 1 := by rw [hsr, hst]
            clear hst
            generalize hb16 : b17 + 1 = b18 at *
            have h16 : b17 < b18 := by omega
            clear hb16
            have HKO7 : Hid (KpO w.heap.size (w.heap.size + 1) b9 Aw L Ok b18) := Lib.hid ⟨by omega, by omega, by omega, fun a ha => by have := HAW.out a ha; omega, fun s hs a ha => by have := HAR.out s hs a ha; omega, HFR.out _ (by omega)⟩
            have HW167 : Hid (w.heap.size ≤ b18 ∧ b17 ≠ b18) := Lib.hid ⟨by omega, by omega⟩
            have HSR7 : Hid (Wv.heap.size = b18 + 1) := Lib.hid (by omega)
            have HX167 := Lib.hid x16
            have HDD7 : Hid (∀ X, (some D) = some X → X < Wv.heap.size) := Lib.hid (fun D e => by cases e; omega)
            refine (wpIn_wide (n := 3)).1 ?_
            refine' rangeG (w0 := Wv) (gf := 59) (lb := lb) rfl (enters_of Tryz.func59 (by kernel_rfl) rfl) (HIT.out.seq b18 _ Wv HKO7.out.ok HX167.out KR7.out.fw) (fun B pre x W l o o' hk h1 h2 => hk.put o' h1 h2) KpQ.trans (fun x W l o o' hl h1 h2 => KpQ.put o' h1 h2) (Below.refl _ _) (fun _ => rfl)
              (Lp0 w Wv b18 (some D) (fun _ => True)) (Lpx w Wv b18 (some D) (fun _ => False) 4) (Lp0.cl (by omega) (by omega) (fun D e => by cases e; omega)) (fun c => Lpx.cl (by omega) (by omega) (fun D e => by cases e; omega) c) ⟨trivial, ⟨x16, KpB.refl _ _, KR7.out.bl, fun D e => by cases e; exact HDW.out⟩⟩ _ ?assign7 ?body7 ?done7 ?stop7
            case assign7 =>
              intro l x W K hK
              unfold encH
              gi_wp2
              exact hK
            case body7 =>
              rintro l pre ⟨x1, R, c⟩ W ⟨hC, hI⟩ ⟨hpl, hx1, hO⟩
              dsimp only
              obtain ⟨n, hn⟩ : ∃ n, pre.length = n := ⟨_, rfl⟩
              rw [hn] at hI hpl hx1 hO
              have hx1 : x1 = (n : Int) + 1 := hx1
              have hO : Own .u8 5 W (Wv.heap.size + 2) R k c (decN vs k n) := hO
              subst hx1
              have KW := KR7.out.kp HIT.out HKO7.out hI.k hI.bl
              have hnN : n < N := hpl
              have h15k := X157.out.kp hI.k (by simpa using HW167.out.2)
              have c15 := h15k.cell (j := 0) (v := .int .i64 1) rfl
              have c16 := hI.x.cell (j := 0) (v := .int .i64 (n : Int)) rfl
              have c9 := KW.x9.cell (j := 0) (v := .slice Aw N cw) rfl
              obtain ⟨s, hs⟩ : ∃ s, L[n]? = some s := ⟨_, List.getElem?_eq_getElem (by rw [HLN.out]; exact hpl)⟩
              have hsr := HRW.out n s hs
              have hcw : W.cell? (adr Aw n) = some (.slice s.A s.n s.c) := KW.r.at_ n s.v (by rw [List.getElem?_map, hs]; rfl)
              have hixw := fun W => Rdv.ix KW.r el100 hnN .i64 W
              have HSS := Lib.hid (same_self R s.A k c s.n s.c (decN vs k n) W (Own.rd hO) (by rw [← hsr.2]; exact KW.rr s (List.mem_of_getElem? hs)))
              have HO := Lib.hid hO
              have HI := Lib.hid hI
              have HC := Lib.hid hC
              have HNN := Lib.hid hnN
              have HNE := Lib.hid hn
              have n15 := HW167.out.2
              have hge : decide ((n : Int) ≥ (N : Int)) = false := by simp; omega
              have hge2 : ¬ ((N : Int) ≤ (n : Int)) := by omega
              have hnb : (n : Int) + 1 ≤ 1000 := by have := HM64.out; omega
              have wn : IntKind.i64.wrap ((n : Int) + 1) = (n : Int) + 1 := IntWalk.i64_in _ (by omega)
              clear hsr hI hC KW h15k hpl hO hs hnb hn
              gi_wp2_with ((with_reducible refine callR ?_); refine HSS.out.mono ?_; rintro en W1 ⟨rfl, rfl⟩)
              gi_loopw [17] (fun i wr => BdI k R c w Wv b18 (some D) n W i wr) (fun i _ => k - (intOf i).toNat)
              case atStart => exact ⟨0, _, Nat.zero_le _, rfl, HO.out, KeepsOthers.refl _, KpB.refl _ _, HI.out⟩
              case round =>
                obtain ⟨j, cur, hj, rfl, hO, hK, hB, hI⟩ := hrel
                by_cases hlt : j < k
                · have hf := Ownv.frozen hO (by have := (Own.rd hO).le; omega) j
                  have hix := fun W => Rdv.ix (Own.rd hO) el26 hlt .i64 W
                  have hcj := Rd.cell (Own.rd hO) hlt
                  have HS := Lib.hid (BdI.step hlt hO hK hB hI (by have := HSR7.out; have := HW167.out.1; omega) (by have := HSR7.out; omega) HDD7.out 9)
                  clear hO hK hB hI c15 c16 c9 hcw hge hge2
                  gi_wp2
                  go_roundw
                  case rel => have h9 := HS.out; push_cast at h9; exact h9
                  case measure => simp [intOf]; omega
                · have HE := Lib.hid (bd_end hK hB hI HW167.out.1 ((n : Int) + 1) c (.int .i64 ((n : Int) + 1)) (by push_cast; rfl))
                  have KE := KR7.out.kp HIT.out HKO7.out HE.out.2.2.k HE.out.2.2.bl
                  have d16 := hI.x.cell (j := 0) (v := .int .i64 (n : Int)) rfl
                  have g16 := hI.x.frozen 0
                  have d15 := (X157.out.kp HE.out.2.2.k (by simpa using HW167.out.2)).cell (j := 0) (v := .int .i64 1) rfl
                  have e16 := HE.out.2.2.x.cell (j := 0) (v := .int .i64 ((n + 1 : Nat) : Int)) rfl
                  push_cast at e16
                  have d7 := KE.x7.cell (j := 0) (v := .int .i64 a3) rfl
                  clear hO hK hB hI KE c15 c16 c9 hcw hge hge2
                  gi_wp2
                  exact ⟨HE.out.1, HE.out.2.1, trivial, by rw [List.length_append, HNE.out]; exact HE.out.2.2⟩
            case done7 =>
              rintro D2 ys W hD hys ⟨hC, hI⟩ hK
              rw [hys] at hI
              clear hys
              have hnn : (((N : Nat) : Int) != ((N : Nat) : Int)) = false := bne_f rfl
              have KWH7 := Lib.hid (KR7.out.kp HIT.out HKO7.out hI.k hI.bl)
              have c15 := (X157.out.kp hI.k (by simpa using HW167.out.2)).cell (j := 0) (v := .int .i64 1) rfl
              have c16 := hI.x.cell (j := 0) (v := .int .i64 ((N : Nat) : Int)) rfl
              have c7 := KWH7.out.x7.cell (j := 0) (v := .int .i64 a3) rfl
              have c9 := KWH7.out.x9.cell (j := 0) (v := .slice Aw N cw) rfl
              have HKI7 := Lib.hid hI.k
              have HKD7 := Lib.hid hK
              have HD2D : Hid (W.heap[D]? = some (.deferred (some []))) := Lib.hid (hI.d D rfl)
              have HBLW := Lib.hid hI.bl
              have hsk := HSR7.out
              have hwk := HW167.out.1
              have hw7 := HKO7.out.h7
              have hdv := heap_lt' HDW.out
              have hlo := HDlo.out
              have hx9 := HX9LT.out
              have hz9 := HZ9.out
              have hs1 : w.heap.size + 1 < D2 := by omega
              have hs2 : w.heap.size + 1 < D := by omega
              have hs3 : D < D2 := by omega
              clear hI hK hC hsk hwk hw7 hdv hlo hx9 hz9
              dsimp only
              go_wp2_with fail
              rw [rounds_succ]
              go_wp2_with fail
              refine (works_any _).mono ?_
              rintro e w20 ⟨rfl, hB20⟩
              have hb20 : Below W.heap.size W w20 := ((Below.refl _ W).alloc (Nat.le_refl _) _).trans (hB20.mono (by simp))
              have z8 := KWH7.out.x8.below hb20
              have c8 := z8.cell (j := 0) (v := .bool false) rfl
              have f8 := z8.frozen 0
              have Z8 := Lib.hid (z8.set 0 (.bool true))
              have d2 : (w20.setCell ⟨w.heap.size + 1, 0, none⟩ (.bool true)).heap[D2]? = some (.deferred (some [])) := (KeepsOthers.setCell w20 _ _).same D2 _ ((hb20.block D2 (heap_lt' HKD7.out)).trans HKD7.out) rfl
              have d1 : (w20.setCell ⟨w.heap.size + 1, 0, none⟩ (.bool true)).heap[D]? = some (.deferred (some [])) := (KeepsOthers.setCell w20 _ _).same D _ ((hb20.block D (heap_lt' HD2D.out)).trans HD2D.out) rfl
              have hbl := (HBLW.out.trans (hb20.mono HBLW.out.size)).setCell (p := ⟨w.heap.size + 1, 0, none⟩) (Nat.le_succ _) (.bool true)
              have hbl2 := hbl.grown (grownBy_putObj' _ D2 (.deferred none)) hbl.size (fun r e => by cases e; omega)
              have hbl3 := hbl2.grown (grownBy_putObj' _ D (.deferred none)) hbl2.size (fun r e => by cases e; omega)
              have HD1 := Lib.hid d1
              have HD2 := Lib.hid d2
              have HBL3 := Lib.hid hbl3
              have hdd : D ≠ D2 := by omega
              have hd8 : w.heap.size + 1 ≠ D2 ∧ w.heap.size + 1 ≠ D := by omega
              clear hb20 z8 hB20 d1 d2 hbl hbl2 hbl3
              go_wp2
              have b6 := ((Z8.out.grown (grownBy_putObj' _ D2 (.deferred none)) (by simpa using hd8.1)).grown (grownBy_putObj' _ D (.deferred none)) (by simpa using hd8.2))
              have l1 := load_bool b6
              refine ⟨by simp, .inl ⟨_, _, rfl, run_takeDeferred HD2.out, by simp, .inl ⟨_, _, rfl, run_takeDeferred ((World.putObj_heap_other (by omega)).trans HD1.out), ?_⟩⟩⟩
              refine ⟨.bool true, ?_, rfl, HBL3.out⟩
              rw [results_c rfl]
              simp [asAddr, l1, Sem.run_pure]
            case stop7 =>
              rintro D2 c pre W hD hpk ⟨rfl, hC, hI⟩ hK
              exact hC.elim
        · obtain rfl : a3 = (nx : Int) := by omega
          by_cases hl : N = nx
          · dsimp only
            go_wp2_with fail
            obtain ⟨Wu, hWu⟩ : ∃ Wu, Wu = W.alloc (.cells #[.int .i64 1] 3) := ⟨_, rfl⟩
            have x15 : Blk Wu W.heap.size 3 [.int .i64 1] := by rw [hWu]; exact Blk.new W [.int .i64 1] 3 rfl
            have kt : KpF w.heap.size (w.heap.size + 1) b9 (nx : Int) Aw N cw L Fw w Wu := by rw [hWu]; exact KWH.out.below HIT.out ((Below.refl _ W).alloc (Nat.le_refl _) _)
            have HDt : Hid (Wu.heap[D]? = some (.deferred (some []))) := Lib.hid (by rw [hWu]; exact heap_old' HKD.out)
            have hst : Wu.heap.size = W.heap.size + 1 := by rw [hWu]; simp
            have hwsz := HKI.out.1
            have hsr0 := HSR.out
            have h15 : w9.heap.size ≤ W.heap.size := by omega
            have HDlo : Hid (w9.heap.size ≤ D) := Lib.hid (by omega)
            rw [← hWu]
            clear hWu c15 c16 c7 c9 hD
            try clear hn0
            try clear hm
            try clear hl
            try clear h0
            generalize W.heap.size = b17 at *
            rw [rounds_succ]
            have c15 := x15.cell (j := 0) (v := .int .i64 1) rfl
            go_wp2_with fail
            obtain ⟨Wv, hWr⟩ : ∃ Wv, Wv = Wu.alloc (.cells #[.int .i64 0] 3) := ⟨_, rfl⟩
            have hbW : Below Wu.heap.size Wu Wv := by rw [hWr]; exact (Below.refl _ Wu).alloc (Nat.le_refl _) _
            have x16 : Blk Wv (b17 + 1) 3 [.int .i64 ((0 : Nat) : Int)] := by rw [hWr]; exact Blk.new Wu [.int .i64 0] 3 hst.symm
            have X158 := Lib.hid (x15.below hbW)
            have KR8 := Lib.hid (kt.below HIT.out hbW)
            have hsr : Wv.heap.size = Wu.heap.size + 1 := by rw [hWr]; simp
            have HDW : Hid (Wv.heap[D]? = some (.deferred (some []))) := Lib.hid ((hbW.block D (heap_lt' HDt.out)).trans HDt.out)
            have hdv := heap_lt' HDW.out
            rw [← hWr]
            clear hWr hbW x15 kt c15
            have hsr : Wv.heap.size = b17 + 1 + 1 := by rw [hsr, hst]
            clear hst
            generalize hb16 : b17 + 1 = b18 at *
            have h16 : b17 < b18 := by omega
            clear hb16
            have HKO8 : Hid (KpO w.heap.size (w.heap.size + 1) b9 Aw L Ok b18) := Lib.hid ⟨by omega, by omega, by omega, fun a ha => by have := HAW.out a ha; omega, fun s hs a ha => by have := HAR.out s hs a ha; omega, HFR.out _ (by omega)⟩
            have HW168 : Hid (w.heap.size ≤ b18 ∧ b17 ≠ b18) := Lib.hid ⟨by omega, by omega⟩
            have HSR8 : Hid (Wv.heap.size = b18 + 1) := Lib.hid (by omega)
            have HX168 := Lib.hid x16
            have HDD8 : Hid (∀ X, (some D) = some X → X < Wv.heap.size) := Lib.hid (fun D e => by cases e; omega)
            refine (wpIn_wide (n := 3)).1 ?_
            refine' rangeG (w0 := Wv) (gf := 59) (lb := lb) rfl (enters_of Tryz.func59 (by kernel_rfl) rfl) (HIT.out.seq b18 _ Wv HKO8.out.ok HX168.out KR8.out.fw) (fun B pre x W l o o' hk h1 h2 => hk.put o' h1 h2) KpQ.trans (fun x W l o o' hl h1 h2 => KpQ.put o' h1 h2) (Below.refl _ _) (fun _ => rfl)
              (Lp0 w Wv b18 (some D) (fun _ => True)) (Lpx w Wv b18 (some D) (fun _ => False) 4) (Lp0.cl (by omega) (by omega) (fun D e => by cases e; omega)) (fun c => Lpx.cl (by omega) (by omega) (fun D e => by cases e; omega) c) ⟨trivial, ⟨x16, KpB.refl _ _, KR8.out.bl, fun D e => by cases e; exact HDW.out⟩⟩ _ ?assign8 ?body8 ?done8 ?stop8
            case assign8 =>
              intro l x W K hK
              unfold encH
              gi_wp2
              exact hK
            case body8 =>
              rintro l pre ⟨x1, R, c⟩ W ⟨hC, hI⟩ ⟨hpl, hx1, hO⟩
              dsimp only
              obtain ⟨n, hn⟩ : ∃ n, pre.length = n := ⟨_, rfl⟩
              rw [hn] at hI hpl hx1 hO
              have hx1 : x1 = (n : Int) + 1 := hx1
              have hO : Own .u8 5 W (Wv.heap.size + 2) R k c (decN vs k n) := hO
              subst hx1
              have KW := KR8.out.kp HIT.out HKO8.out hI.k hI.bl
              have hnN : n < N := hpl
              have h15k := X158.out.kp hI.k (by simpa using HW168.out.2)
              have c15 := h15k.cell (j := 0) (v := .int .i64 1) rfl
              have c16 := hI.x.cell (j := 0) (v := .int .i64 (n : Int)) rfl
              have c9 := KW.x9.cell (j := 0) (v := .slice Aw N cw) rfl
              obtain ⟨s, hs⟩ : ∃ s, L[n]? = some s := ⟨_, List.getElem?_eq_getElem (by rw [HLN.out]; exact hpl)⟩
              have hsr := HRW.out n s hs
              have hcw : W.cell? (adr Aw n) = some (.slice s.A s.n s.c) := KW.r.at_ n s.v (by rw [List.getElem?_map, hs]; rfl)
              have hixw := fun W => Rdv.ix KW.r el100 hnN .i64 W
              have HSS := Lib.hid (same_self R s.A k c s.n s.c (decN vs k n) W (Own.rd hO) (by rw [← hsr.2]; exact KW.rr s (List.mem_of_getElem? hs)))
              have HO := Lib.hid hO
              have HI := Lib.hid hI
              have HC := Lib.hid hC
              have HNN := Lib.hid hnN
              have HNE := Lib.hid hn
              have n15 := HW168.out.2
              have hge : decide ((n : Int) ≥ (N : Int)) = false := by simp; omega
              have hge2 : ¬ ((N : Int) ≤ (n : Int)) := by omega
              have hnb : (n : Int) + 1 ≤ 1000 := by have := HM64.out; omega
              have wn : IntKind.i64.wrap ((n : Int) + 1) = (n : Int) + 1 := IntWalk.i64_in _ (by omega)
              clear hsr hI hC KW h15k hpl hO hs hnb hn
              gi_wp2_with ((with_reducible refine callR ?_); refine HSS.out.mono ?_; rintro en W1 ⟨rfl, rfl⟩)
              gi_loopw [17] (fun i wr => BdI k R c w Wv b18 (some D) n W i wr) (fun i _ => k - (intOf i).toNat)
              case atStart => exact ⟨0, _, Nat.zero_le _, rfl, HO.out, KeepsOthers.refl _, KpB.refl _ _, HI.out⟩
              case round =>
                obtain ⟨j, cur, hj, rfl, hO, hK, hB, hI⟩ := hrel
                by_cases hlt : j < k
                · have hf := Ownv.frozen hO (by have := (Own.rd hO).le; omega) j
                  have hix := fun W => Rdv.ix (Own.rd hO) el26 hlt .i64 W
                  have hcj := Rd.cell (Own.rd hO) hlt
                  have HS := Lib.hid (BdI.step hlt hO hK hB hI (by have := HSR8.out; have := HW168.out.1; omega) (by have := HSR8.out; omega) HDD8.out 9)
                  clear hO hK hB hI c15 c16 c9 hcw hge hge2
                  gi_wp2
                  go_roundw
                  case rel => have h9 := HS.out; push_cast at h9; exact h9
                  case measure => simp [intOf]; omega
                · have HE := Lib.hid (bd_end hK hB hI HW168.out.1 ((n : Int) + 1) c (.int .i64 ((n : Int) + 1)) (by push_cast; rfl))
                  have KE := KR8.out.kp HIT.out HKO8.out HE.out.2.2.k HE.out.2.2.bl
                  have d16 := hI.x.cell (j := 0) (v := .int .i64 (n : Int)) rfl
                  have g16 := hI.x.frozen 0
                  have d15 := (X158.out.kp HE.out.2.2.k (by simpa using HW168.out.2)).cell (j := 0) (v := .int .i64 1) rfl
                  have e16 := HE.out.2.2.x.cell (j := 0) (v := .int .i64 ((n + 1 : Nat) : Int)) rfl
                  push_cast at e16
                  have d7 := KE.x7.cell (j := 0) (v := .int .i64 (nx : Int)) rfl
                  clear hO hK hB hI KE c15 c16 c9 hcw hge hge2
                  gi_wp2
                  exact ⟨HE.out.1, HE.out.2.1, trivial, by rw [List.length_append, HNE.out]; exact HE.out.2.2⟩
            case done8 =>
              rintro D2 ys W hD hys ⟨hC, hI⟩ hK
              rw [hys] at hI
              clear hys
              have hnn : (((N : Nat) : Int) != ((N : Nat) : Int)) = false := bne_f rfl
              have KWH8 := Lib.hid (KR8.out.kp HIT.out HKO8.out hI.k hI.bl)
              have c15 := (X158.out.kp hI.k (by simpa using HW168.out.2)).cell (j := 0) (v := .int .i64 1) rfl
              have c16 := hI.x.cell (j := 0) (v := .int .i64 ((N : Nat) : Int)) rfl
              have c7 := KWH8.out.x7.cell (j := 0) (v := .int .i64 (nx : Int)) rfl
              have c9 := KWH8.out.x9.cell (j := 0) (v := .slice Aw N cw) rfl
              have HKI8 := Lib.hid hI.k
              have HKD8 := Lib.hid hK
              have HD2D : Hid (W.heap[D]? = some (.deferred (some []))) := Lib.hid (hI.d D rfl)
              have HBLW := Lib.hid hI.bl
              have hsk := HSR8.out
              have hwk := HW168.out.1
              have hw7 := HKO8.out.h7
              have hdv := heap_lt' HDW.out
              have hlo := HDlo.out
              have hx9 := HX9LT.out
              have hz9 := HZ9.out
              have hs1 : w.heap.size + 1 < D2 := by omega
              have hs2 : w.heap.size + 1 < D := by omega
              have hs3 : D < D2 := by omega
              clear hI hK hC hsk hwk hw7 hdv hlo hx9 hz9
              dsimp only
              go_wp2_with fail
              rw [rounds_succ]
              go_wp2_with fail
              refine (works_any _).mono ?_
              rintro e w20 ⟨rfl, hB20⟩
              have hb20 : Below W.heap.size W w20 := ((Below.refl _ W).alloc (Nat.le_refl _) _).trans (hB20.mono (by simp))
              have z8 := KWH8.out.x8.below hb20
              have c8 := z8.cell (j := 0) (v := .bool false) rfl
              have f8 := z8.frozen 0
              have Z8 := Lib.hid (z8.set 0 (.bool true))
              have d2 : (w20.setCell ⟨w.heap.size + 1, 0, none⟩ (.bool true)).heap[D2]? = some (.deferred (some [])) := (KeepsOthers.setCell w20 _ _).same D2 _ ((hb20.block D2 (heap_lt' HKD8.out)).trans HKD8.out) rfl
              have d1 : (w20.setCell ⟨w.heap.size + 1, 0, none⟩ (.bool true)).heap[D]? = some (.deferred (some [])) := (KeepsOthers.setCell w20 _ _).same D _ ((hb20.block D (heap_lt' HD2D.out)).trans HD2D.out) rfl
              have hbl := (HBLW.out.trans (hb20.mono HBLW.out.size)).setCell (p := ⟨w.heap.size + 1, 0, none⟩) (Nat.le_succ _) (.bool true)
              have hbl2 := hbl.grown (grownBy_putObj' _ D2 (.deferred none)) hbl.size (fun r e => by cases e; omega)
              have hbl3 := hbl2.grown (grownBy_putObj' _ D (.deferred none)) hbl2.size (fun r e => by cases e; omega)
              have HD1 := Lib.hid d1
              have HD2 := Lib.hid d2
              have HBL3 := Lib.hid hbl3
              have hdd : D ≠ D2 := by omega
              have hd8 : w.heap.size + 1 ≠ D2 ∧ w.heap.size + 1 ≠ D := by omega
              clear hb20 z8 hB20 d1 d2 hbl hbl2 hbl3
              go_wp2
              have b6 := ((Z8.out.grown (grownBy_putObj' _ D2 (.deferred none)) (by simpa using hd8.1)).grown (grownBy_putObj' _ D (.deferred none)) (by simpa using hd8.2))
              have l1 := load_bool b6
              refine ⟨by simp, .inl ⟨_, _, rfl, run_takeDeferred HD2.out, by simp, .inl ⟨_, _, rfl, run_takeDeferred ((World.putObj_heap_other (by omega)).trans HD1.out), ?_⟩⟩⟩
              refine ⟨.bool true, ?_, rfl, HBL3.out⟩
              rw [results_c rfl]
              simp [asAddr, l1, Sem.run_pure]
            case stop8 =>
              rintro D2 c pre W hD hpk ⟨rfl, hC, hI⟩ hK
              exact hC.elim
          · dsimp only
            go_wp2_with fail
            obtain ⟨Wu, hWu⟩ : ∃ Wu, Wu = W.alloc (.cells #[.int .i64 1] 3) := ⟨_, rfl⟩
            have x15 : Blk Wu W.heap.size 3 [.int .i64 1] := by rw [hWu]; exact Blk.new W [.int .i64 1] 3 rfl
            have kt : KpF w.heap.size (w.heap.size + 1) b9 (nx : Int) Aw N cw L Fw w Wu := by rw [hWu]; exact KWH.out.below HIT.out ((Below.refl _ W).alloc (Nat.le_refl _) _)
            have HDt : Hid (Wu.heap[D]? = some (.deferred (some []))) := Lib.hid (by rw [hWu]; exact heap_old' HKD.out)
            have hst : Wu.heap.size = W.heap.size + 1 := by rw [hWu]; simp
            have hwsz := HKI.out.1
            have hsr0 := HSR.out
            have h15 : w9.heap.size ≤ W.heap.size := by omega
            have HDlo : Hid (w9.heap.size ≤ D) := Lib.hid (by omega)
            rw [← hWu]
            clear hWu c15 c16 c7 c9 hD
            try clear hn0
            try clear hm
            try clear hl
            try clear h0
            generalize W.heap.size = b17 at *
            rw [rounds_succ]
            have c15 := x15.cell (j := 0) (v := .int .i64 1) rfl
            go_wp2_with fail
            obtain ⟨Wv, hWr⟩ : ∃ Wv, Wv = Wu.alloc (.cells #[.int .i64 0] 3) := ⟨_, rfl⟩
            have hbW : Below Wu.heap.size Wu Wv := by rw [hWr]; exact (Below.refl _ Wu).alloc (Nat.le_refl _) _
            have x16 : Blk Wv (b17 + 1) 3 [.int .i64 ((0 : Nat) : Int)] := by rw [hWr]; exact Blk.new Wu [.int .i64 0] 3 hst.symm
            have X159 := Lib.hid (x15.below hbW)
            have KR9 := Lib.hid (kt.below HIT.out hbW)
            have hsr : Wv.heap.size = Wu.heap.size + 1 := by rw [hWr]; simp
            have HDW : Hid (Wv.heap[D]? = some (.deferred (some []))) := Lib.hid ((hbW.block D (heap_lt' HDt.out)).trans HDt.out)
            have hdv := heap_lt' HDW.out
            rw [← hWr]
            clear hWr hbW x15 kt c15
            have hsr : Wv.heap.size = b17 + 1 + 1 := by rw [hsr, hst]
            clear hst
            generalize hb16 : b17 + 1 = b18 at *
            have h16 : b17 < b18 := by omega
            clear hb16
            have HKO9 : Hid (KpO w.heap.size (w.heap.size + 1) b9 Aw L Ok b18) := Lib.hid ⟨by omega, by omega, by omega, fun a ha => by have := HAW.out a ha; omega, fun s hs a ha => by have := HAR.out s hs a ha; omega, HFR.out _ (by omega)⟩
            have HW169 : Hid (w.heap.size ≤ b18 ∧ b17 ≠ b18) := Lib.hid ⟨by omega, by omega⟩
            have HSR9 : Hid (Wv.heap.size = b18 + 1) := Lib.hid (by omega)
            have HX169 := Lib.hid x16
            have HDD9 : Hid (∀ X, (some D) = some X → X < Wv.heap.size) := Lib.hid (fun D e => by cases e; omega)
            refine (wpIn_wide (n := 3)).1 ?_
            refine' rangeG (w0 := Wv) (gf := 59) (lb := lb) rfl (enters_of Tryz.func59 (by kernel_rfl) rfl) (HIT.out.seq b18 _ Wv HKO9.out.ok HX169.out KR9.out.fw) (fun B pre x W l o o' hk h1 h2 => hk.put o' h1 h2) KpQ.trans (fun x W l o o' hl h1 h2 => KpQ.put o' h1 h2) (Below.refl _ _) (fun _ => rfl)
              (Lp0 w Wv b18 (some D) (fun _ => True)) (Lpx w Wv b18 (some D) (fun _ => False) 4) (Lp0.cl (by omega) (by omega) (fun D e => by cases e; omega)) (fun c => Lpx.cl (by omega) (by omega) (fun D e => by cases e; omega) c) ⟨trivial, ⟨x16, KpB.refl _ _, KR9.out.bl, fun D e => by cases e; exact HDW.out⟩⟩ _ ?assign9 ?body9 ?done9 ?stop9
            case assign9 =>
              intro l x W K hK
              unfold encH
              gi_wp2
              exact hK
            case body9 =>
              rintro l pre ⟨x1, R, c⟩ W ⟨hC, hI⟩ ⟨hpl, hx1, hO⟩
              dsimp only
              obtain ⟨n, hn⟩ : ∃ n, pre.length = n := ⟨_, rfl⟩
              rw [hn] at hI hpl hx1 hO
              have hx1 : x1 = (n : Int) + 1 := hx1
              have hO : Own .u8 5 W (Wv.heap.size + 2) R k c (decN vs k n) := hO
              subst hx1
              have KW := KR9.out.kp HIT.out HKO9.out hI.k hI.bl
              have hnN : n < N := hpl
              have h15k := X159.out.kp hI.k (by simpa using HW169.out.2)
              have c15 := h15k.cell (j := 0) (v := .int .i64 1) rfl
              have c16 := hI.x.cell (j := 0) (v := .int .i64 (n : Int)) rfl
              have c9 := KW.x9.cell (j := 0) (v := .slice Aw N cw) rfl
              obtain ⟨s, hs⟩ : ∃ s, L[n]? = some s := ⟨_, List.getElem?_eq_getElem (by rw [HLN.out]; exact hpl)⟩
              have hsr := HRW.out n s hs
              have hcw : W.cell? (adr Aw n) = some (.slice s.A s.n s.c) := KW.r.at_ n s.v (by rw [List.getElem?_map, hs]; rfl)
              have hixw := fun W => Rdv.ix KW.r el100 hnN .i64 W
              have HSS := Lib.hid (same_self R s.A k c s.n s.c (decN vs k n) W (Own.rd hO) (by rw [← hsr.2]; exact KW.rr s (List.mem_of_getElem? hs)))
              have HO := Lib.hid hO
              have HI := Lib.hid hI
              have HC := Lib.hid hC
              have HNN := Lib.hid hnN
              have HNE := Lib.hid hn
              have n15 := HW169.out.2
              have hge : decide ((n : Int) ≥ (N : Int)) = false := by simp; omega
              have hge2 : ¬ ((N : Int) ≤ (n : Int)) := by omega
              have hnb : (n : Int) + 1 ≤ 1000 := by have := HM64.out; omega
              have wn : IntKind.i64.wrap ((n : Int) + 1) = (n : Int) + 1 := IntWalk.i64_in _ (by omega)
              clear hsr hI hC KW h15k hpl hO hs hnb hn
              gi_wp2_with ((with_reducible refine callR ?_); refine HSS.out.mono ?_; rintro en W1 ⟨rfl, rfl⟩)
              gi_loopw [17] (fun i wr => BdI k R c w Wv b18 (some D) n W i wr) (fun i _ => k - (intOf i).toNat)
              case atStart => exact ⟨0, _, Nat.zero_le _, rfl, HO.out, KeepsOthers.refl _, KpB.refl _ _, HI.out⟩
              case round =>
                obtain ⟨j, cur, hj, rfl, hO, hK, hB, hI⟩ := hrel
                by_cases hlt : j < k
                · have hf := Ownv.frozen hO (by have := (Own.rd hO).le; omega) j
                  have hix := fun W => Rdv.ix (Own.rd hO) el26 hlt .i64 W
                  have hcj := Rd.cell (Own.rd hO) hlt
                  have HS := Lib.hid (BdI.step hlt hO hK hB hI (by have := HSR9.out; have := HW169.out.1; omega) (by have := HSR9.out; omega) HDD9.out 9)
                  clear hO hK hB hI c15 c16 c9 hcw hge hge2
                  gi_wp2
                  go_roundw
                  case rel => have h9 := HS.out; push_cast at h9; exact h9
                  case measure => simp [intOf]; omega
                · have HE := Lib.hid (bd_end hK hB hI HW169.out.1 ((n : Int) + 1) c (.int .i64 ((n : Int) + 1)) (by push_cast; rfl))
                  have KE := KR9.out.kp HIT.out HKO9.out HE.out.2.2.k HE.out.2.2.bl
                  have d16 := hI.x.cell (j := 0) (v := .int .i64 (n : Int)) rfl
                  have g16 := hI.x.frozen 0
                  have d15 := (X159.out.kp HE.out.2.2.k (by simpa using HW169.out.2)).cell (j := 0) (v := .int .i64 1) rfl
                  have e16 := HE.out.2.2.x.cell (j := 0) (v := .int .i64 ((n + 1 : Nat) : Int)) rfl
                  push_cast at e16
                  have d7 := KE.x7.cell (j := 0) (v := .int .i64 (nx : Int)) rfl
                  clear hO hK hB hI KE c15 c16 c9 hcw hge hge2
                  gi_wp2
                  exact ⟨HE.out.1, HE.out.2.1, trivial, by rw [List.length_append, HNE.out]; exact HE.out.2.2⟩
            case done9 =>
              rintro D2 ys W hD hys ⟨hC, hI⟩ hK
              rw [hys] at hI
              clear hys
              have hnn : (((N : Nat) : Int) != ((N : Nat) : Int)) = false := bne_f rfl
              have KWH9 := Lib.hid (KR9.out.kp HIT.out HKO9.out hI.k hI.bl)
              have c15 := (X159.out.kp hI.k (by simpa using HW169.out.2)).cell (j := 0) (v := .int .i64 1) rfl
              have c16 := hI.x.cell (j := 0) (v := .int .i64 ((N : Nat) : Int)) rfl
              have c7 := KWH9.out.x7.cell (j := 0) (v := .int .i64 (nx : Int)) rfl
              have c9 := KWH9.out.x9.cell (j := 0) (v := .slice Aw N cw) rfl
              have HKI9 := Lib.hid hI.k
              have HKD9 := Lib.hid hK
              have HD2D : Hid (W.heap[D]? = some (.deferred (some []))) := Lib.hid (hI.d D rfl)
              have HBLW := Lib.hid hI.bl
              have hsk := HSR9.out
              have hwk := HW169.out.1
              have hw7 := HKO9.out.h7
              have hdv := heap_lt' HDW.out
              have hlo := HDlo.out
              have hx9 := HX9LT.out
              have hz9 := HZ9.out
              have hs1 : w.heap.size + 1 < D2 := by omega
              have hs2 : w.heap.size + 1 < D := by omega
              have hs3 : D < D2 := by omega
              clear hI hK hC hsk hwk hw7 hdv hlo hx9 hz9
              dsimp only
              go_wp2_with fail
              rw [rounds_succ]
              go_wp2_with fail
              refine (works_any _).mono ?_
              rintro e w20 ⟨rfl, hB20⟩
              have hb20 : Below W.heap.size W w20 := ((Below.refl _ W).alloc (Nat.le_refl _) _).trans (hB20.mono (by simp))
              have z8 := KWH9.out.x8.below hb20
              have c8 := z8.cell (j := 0) (v := .bool false) rfl
              have f8 := z8.frozen 0
              have Z8 := Lib.hid (z8.set 0 (.bool true))
              have d2 : (w20.setCell ⟨w.heap.size + 1, 0, none⟩ (.bool true)).heap[D2]? = some (.deferred (some [])) := (KeepsOthers.setCell w20 _ _).same D2 _ ((hb20.block D2 (heap_lt' HKD9.out)).trans HKD9.out) rfl
              have d1 : (w20.setCell ⟨w.heap.size + 1, 0, none⟩ (.bool true)).heap[D]? = some (.deferred (some [])) := (KeepsOthers.setCell w20 _ _).same D _ ((hb20.block D (heap_lt' HD2D.out)).trans HD2D.out) rfl
              have hbl := (HBLW.out.trans (hb20.mono HBLW.out.size)).setCell (p := ⟨w.heap.size + 1, 0, none⟩) (Nat.le_succ _) (.bool true)
              have hbl2 := hbl.grown (grownBy_putObj' _ D2 (.deferred none)) hbl.size (fun r e => by cases e; omega)
              have hbl3 := hbl2.grown (grownBy_putObj' _ D (.deferred none)) hbl2.size (fun r e => by cases e; omega)
              have HD1 := Lib.hid d1
              have HD2 := Lib.hid d2
              have HBL3 := Lib.hid hbl3
              have hdd : D ≠ D2 := by omega
              have hd8 : w.heap.size + 1 ≠ D2 ∧ w.heap.size + 1 ≠ D := by omega
              clear hb20 z8 hB20 d1 d2 hbl hbl2 hbl3
              go_wp2
              have b6 := ((Z8.out.grown (grownBy_putObj' _ D2 (.deferred none)) (by simpa using hd8.1)).grown (grownBy_putObj' _ D (.deferred none)) (by simpa using hd8.2))
              have l1 := load_bool b6
              refine ⟨by simp, .inl ⟨_, _, rfl, run_takeDeferred HD2.out, by simp, .inl ⟨_, _, rfl, run_takeDeferred ((World.putObj_heap_other (by omega)).trans HD1.out), ?_⟩⟩⟩
              refine ⟨.bool true, ?_, rfl, HBL3.out⟩
              rw [results_c rfl]
              simp [asAddr, l1, Sem.run_pure]
            case stop9 =>
              rintro D2 c pre W hD hpk ⟨rfl, hC, hI⟩ hK
              exact hC.elim
end Go.Proofs.YtpdalbckmfadbaaGreat

