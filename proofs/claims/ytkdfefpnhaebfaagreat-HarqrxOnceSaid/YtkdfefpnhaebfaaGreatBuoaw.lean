/- Bundle. Conditions: none. -/
import Derived.Test.YtkdfefpnhaebfaaGreatBuoav
import Derived.Test.YtkdfefpnhaebfaaGreatBuoar
import Derived.Test.YtkdfefpnhaebfaaGreatBuoat
import Derived.Laws.BitsAllLaws
import Derived.Test.YtkdfefpnhaebfaaGreatBuoau
import Derived.Laws.BitsLemmas
import Derived.WalkKit
set_option linter.unusedVariables false
set_option linter.unusedSimpArgs false
namespace Go.Proofs.YtkdfefpnhaebfaaGreat
open Go.RowKit
attribute [local go_sem] Oper.semAt_some
set_option maxRecDepth 100000
set_option maxHeartbeats 1000000
def kOf (vs : List Int) : Nat := vs.length / 3 - 4
noncomputable def fdN (vs : List Int) (kind : Int) (most : Int) : Option Nat := (List.range most.toNat).find? (okN kind vs (kOf vs))
noncomputable def itE (vs : List Int) (kind most : Int) : Int := if wrE vs kind most = 0 then (match fdN vs kind most with | some _ => 0 | none => 11) else wrE vs kind most
noncomputable def itH (vs : List Int) (kind most : Int) : Int := if wrE vs kind most = 0 then (match fdN vs kind most with | some h => ((h + 1 : Nat) : Int) | none => 0) else 0
noncomputable def itD (vs : List Int) (kind most : Int) : List Int := if wrE vs kind most = 0 then (match fdN vs kind most with | some h => decN vs (kOf vs) h | none => []) else []
theorem wrE_zero {vs : List Int} {kind most : Int} (h : wrE vs kind most = 0) : vs.length % 3 = 0 ∧ Tu.validK ((vs.length : Int) / 3 - 4) = true ∧ (0 ≤ kind ∧ kind ≤ 4) ∧ (1 ≤ most ∧ most ≤ 64) ∧ SoftB vs = true := by
 unfold wrE at h
 split at h
 · cases h
 · rename_i hc
   split at h
   · rename_i hs
     refine ⟨by omega, ?_, by omega, by omega, hs⟩
     cases hv : Tu.validK ((vs.length : Int) / 3 - 4) with
     | true => rfl
     | false => exact absurd (.inr (.inl hv)) hc
   · cases h
theorem valid_szK {k : Nat} (h : Tu.validK (k : Int) = true) (hk : k ≤ 512) : ∃ u, k = Tu.szK u := by
 unfold Tu.validK at h
 rw [decide_eq_true_iff] at h
 refine ⟨(k - 40) / 8, ?_⟩
 unfold Tu.szK
 omega
def DcA (vs : List Int) (kind most : Int) (w : World) (e : Ending) (w' : World) : Prop :=
 ∃ R n rc, e = .returned (.tuple #[.slice R n rc, .int .i64 (itH vs kind most), .int .i64 (itE vs kind most)]) ∧ Rd .u8 w' R n rc (itD vs kind most) ∧ (R ≠ none → w.heap.size ≤ blk R) ∧ Below w.heap.size w w'
theorem dec_any (S : Option Addr) (n cs : Nat) (vs : List Int) (kind most : Int) (w : World) (h : Rd .i64 w S n cs vs) (hn : n ≤ 1500) :
 Calls Tryz.prog 73 #[.slice S n cs, .int .i64 kind, .int .i64 most] w (DcA vs kind most w) := by
 have hl := Rd.len h
 by_cases hE : wrE vs kind most = 0
 · obtain ⟨h3, hv, hk, hm, hs⟩ := wrE_zero hE
   have hkb := Tu.valid_bd hv
   have hkn : ((vs.length : Int) / 3 - 4) = ((kOf vs : Nat) : Int) := by unfold kOf; omega
   rw [hkn] at hv hkb
   have hn3 : n = 3 * (kOf vs + 4) := by omega
   obtain ⟨u, hu⟩ := valid_szK hv (by unfold kOf; omega)
   obtain ⟨m, rfl⟩ := Int.eq_ofNat_of_zero_le (show 0 ≤ most by omega)
   rw [hn3] at h ⊢
   refine (decode_half S (kOf vs) u cs vs kind m w h hu hk (by omega) hs).mono ?_
   rintro e w' ⟨hB, ⟨j, h1, h2, h3, R, rc, rfl, hR, hF⟩ | ⟨h1, rfl⟩⟩
   · have hf : fdN vs kind (m : Int) = some j := by
      unfold fdN
      rw [Int.toNat_natCast, List.find?_range_eq_some]
      exact ⟨h2, List.mem_range.2 h1, fun q hq => by rw [h3 q hq]; rfl⟩
     refine ⟨R, kOf vs, rc, ?_, ?_, hF, hB⟩
     · unfold itH itE; rw [if_pos hE, if_pos hE, hf]
     · unfold itD; rw [if_pos hE, hf]; exact hR
   · have hf : fdN vs kind (m : Int) = none := by
      unfold fdN
      rw [Int.toNat_natCast, List.find?_eq_none]
      intro q hq
      rw [h1 q (List.mem_range.1 hq)]; decide
     refine ⟨none, 0, 0, ?_, ?_, fun h => absurd rfl h, hB⟩
     · unfold itH itE; rw [if_pos hE, if_pos hE, hf]
     · unfold itD; rw [if_pos hE, hf]; exact Rd.nilv .u8 _
 · have e1 : itH vs kind most = 0 := by unfold itH; rw [if_neg hE]
   have e2 : itE vs kind most = wrE vs kind most := by unfold itE; rw [if_neg hE]
   have e3 : itD vs kind most = [] := by unfold itD; rw [if_neg hE]
   unfold DcA
   rw [e1, e2, e3]
   clear e1 e2 e3
   have HBG : ∃ E : Int, wrE vs kind most = E ∧ E ≠ 0 ∧ Calls Tryz.prog 122 #[.slice S n cs, .int .i64 kind, .int .i64 most] w fun e w' => e = .returned (.tuple #[.pointer none, .int .i64 E]) ∧ Below w.heap.size w w' := by
    by_cases hc : vs.length % 3 ≠ 0 ∨ Tu.validK ((vs.length : Int) / 3 - 4) = false ∨ kind < 0 ∨ 4 < kind ∨ most < 1 ∨ 64 < most
    · exact ⟨2, by unfold wrE; rw [if_pos hc], by decide, begun_bad S n cs vs kind most w h (by omega) hc⟩
    · by_cases hs : SoftB vs = true
      · exact absurd (by unfold wrE; rw [if_neg hc, if_pos hs]) hE
      · refine ⟨6, by unfold wrE; rw [if_neg hc, if_neg hs], by decide, begun_soft S n cs vs kind most w h (by omega) (by omega) ?_ (by omega) (by omega) (by simpa using hs)⟩
        rw [← hl]
        cases hv : Tu.validK ((vs.length : Int) / 3 - 4) with
        | true => rfl
        | false => exact absurd (.inr (.inl hv)) hc
   obtain ⟨E, hEe, hE0, hcall⟩ := HBG
   have HC := Lib.hid hcall
   have q := bne_t hE0
   rw [hEe]
   clear hcall hE0 hEe hE h hl
   go_enter Tryz.func73, Tryz.ntmps73
   go_wp2_with fail
   refine HC.out.mono ?_
   rintro e w1 ⟨rfl, hB⟩
   go_wp2
   go_ret3
   exact ⟨none, 0, 0, rfl, Rd.nilv .u8 _, fun h => absurd rfl h, hB⟩
end Go.Proofs.YtkdfefpnhaebfaaGreat
namespace Go.Proofs.YtkdfefpnhaebfaaGreat
open Go.RowKit
attribute [local go_sem] Oper.semAt_some
theorem fd_of {vs : List Int} {kind : Int} {m h k : Nat} (hk : kOf vs = k) (hh : h < m) (h1 : okN kind vs k h = true) (h2 : ∀ q, q < h → okN kind vs k q = false) : fdN vs kind (m : Int) = some h := by
 unfold fdN
 rw [Int.toNat_natCast, List.find?_range_eq_some, hk]
 exact ⟨h1, List.mem_range.2 hh, fun q hq => by rw [h2 q hq]; rfl⟩
theorem it_of {vs : List Int} {kind most : Int} {h k : Nat} (hk : kOf vs = k) (hE : wrE vs kind most = 0) (hf : fdN vs kind most = some h) : itE vs kind most = 0 ∧ itH vs kind most = ((h + 1 : Nat) : Int) ∧ itD vs kind most = decN vs k h := by
 unfold itE itH itD
 rw [if_pos hE, if_pos hE, if_pos hE, hf, hk]
 exact ⟨rfl, rfl, rfl⟩
end Go.Proofs.YtkdfefpnhaebfaaGreat
namespace Go.Proofs.YtkdfefpnhaebfaaGreat
open Go.RowKit
set_option maxRecDepth 100000
theorem info2i : (Tryz.prog.info? 87).map (·.size) = some 2 := by kernel_rfl
theorem bounds_any (w : World) : Calls Tryz.prog 146 #[] w fun e w' => e = .returned (.agg #[.int .i64 (-127), .int .i64 127]) ∧ Below w.heap.size w w' := by
 have hx : Blk (w.alloc (.cells #[.int .i64 0, .int .i64 0] 87)) w.heap.size 87 [.int .i64 0, .int .i64 0] := Blk.new w [.int .i64 0, .int .i64 0] _ rfl
 have hq : Below w.heap.size w (w.alloc (.cells #[.int .i64 0, .int .i64 0] 87)) := (Below.refl _ w).alloc (Nat.le_refl _) _
 go_enter Tryz.func146, Tryz.ntmps146
 go_wp2_with (refine strow (cs := [.int .i64 (-127), .int .i64 127]) rfl 87 (.tmp 0) (.tmp 1) rfl rfl rfl hx rfl (by kernel_rfl) (by simp [Value.oneCell']) ?_
              intro W' h1 h2
              have H1 := Lib.hid h1
              have H2 := Lib.hid (hq.grown h2 hq.size (fun k e => by cases e; exact Nat.le_refl _))
              clear h1 h2 hx hq)
 have l1 : (loadVar 87 ⟨w.heap.size, 0, none⟩).run Tryz.prog W' = .ok (.agg [.int .i64 (-127), .int .i64 127].toArray) W' := run_loadVar_row (P := Tryz.prog) W' _ 87 87 _ (0, 0) _ H1.out Tryz.underlying87 rfl (by rw [info2i]; rfl)
 refine bodyPost_ret (v := .agg [.int .i64 (-127), .int .i64 127].toArray) ?_ rfl ⟨rfl, H2.out⟩
 rw [results_c rfl]
 simp [asAddr, Act.put, l1, Sem.run_pure]
def clI (v : Int) : Int := if v < -127 then -127 else if 127 < v then 127 else v
theorem clamp_any (v : Int) (w : World) : Calls Tryz.prog 89 #[.int .i64 v] w fun e w' => e = .returned (.int .i64 (clI v)) ∧ Below w.heap.size w w' := by
 obtain ⟨u, hu⟩ : ∃ u, u = clI v := ⟨_, rfl⟩
 rw [← hu]
 rcases (by omega : v < -127 ∨ 127 < v ∨ (-127 < v ∧ v < 127) ∨ v = -127 ∨ v = 127) with h | h | ⟨h1, h2⟩ | rfl | rfl
 case' inl => have e1 : u = -127 := by rw [hu]; unfold clI; rw [if_pos h]
 case' inr.inl => have e1 : u = 127 := by rw [hu]; unfold clI; rw [if_neg (by omega), if_pos h]
 case' inr.inr.inl => have e1 : u = v := by rw [hu]; unfold clI; rw [if_neg (by omega), if_neg (by omega)]
 case' inr.inr.inr.inl => have e1 : u = -127 := by rw [hu]; decide
 case' inr.inr.inr.inr => have e1 : u = 127 := by rw [hu]; decide
 all_goals
  rw [e1]
  clear hu e1
  go_enter Tryz.func89, Tryz.ntmps89
  go_wp2_with fail
  refine (bounds_any w).mono ?_
  rintro e w1 ⟨rfl, hB⟩
  have HB := Lib.hid ((hB.alloc hB.size (.cells #[.int .i64 (-127), .int .i64 127] 87)))
  clear hB
  go_wp2
  go_ret
  exact ⟨rfl, HB.out⟩
theorem clI_bd (v : Int) : -127 ≤ clI v ∧ clI v ≤ 127 := by unfold clI; split <;> (try split) <;> omega
theorem clI_in {v : Int} (h : -127 ≤ v ∧ v ≤ 127) : clI v = v := by unfold clI; rw [if_neg (by omega), if_neg (by omega)]
def addI (a b : Int) : Int := clI (clI a + clI b)
theorem sadd_any (a b : Int) (w : World) : Calls Tryz.prog 120 #[.int .i64 a, .int .i64 b] w fun e w' => e = .returned (.int .i64 (addI a b)) ∧ Below w.heap.size w w' := by
 have ha := clI_bd a
 have hb := clI_bd b
 have q : IntKind.i64.wrap (clI a + clI b) = clI a + clI b := IntWalk.i64_in _ (by omega)
 have HA := Lib.hid (fun W => clamp_any a W)
 have HB := Lib.hid (fun W => clamp_any b W)
 have HC := Lib.hid (fun W => clamp_any (clI a + clI b) W)
 have HE := Lib.hid (show addI a b = clI (clI a + clI b) from rfl)
 rw [HE.out]
 generalize clI (clI a + clI b) = z at *
 generalize clI a = x at *
 generalize clI b = y at *
 clear HE
 go_enter Tryz.func120, Tryz.ntmps120
 go_wp2_with fail
 refine (HA.out _).mono ?_
 rintro e w1 ⟨rfl, hB1⟩
 have H1 := Lib.hid hB1
 clear hB1
 go_wp2_with fail
 refine (HB.out _).mono ?_
 rintro e w2 ⟨rfl, hB2⟩
 have H2 := Lib.hid (H1.out.trans (hB2.mono H1.out.size))
 clear hB2
 go_wp2_with fail
 refine (HC.out _).mono ?_
 rintro e w3 ⟨rfl, hB3⟩
 have H3 := Lib.hid (H2.out.trans (hB3.mono H2.out.size))
 clear hB3
 go_wp2
 go_ret
 exact ⟨rfl, H3.out⟩
theorem svalid1_any (v : Int) (w : World) : Calls Tryz.prog 88 #[.int .i64 v] w fun e w' => e = .returned (.bool (!decide (-127 ≤ v ∧ v ≤ 127))) ∧ Below w.heap.size w w' := by
 have HA := Lib.hid (fun W => clamp_any v W)
 have HE : Hid ((clI v != v) = (!decide (-127 ≤ v ∧ v ≤ 127))) := Lib.hid (by
  by_cases h : -127 ≤ v ∧ v ≤ 127
  · rw [clI_in h]; simp [h]
  · have hb := clI_bd v
    have hne : clI v ≠ v := fun e => h (by rw [← e]; exact hb)
    simp [h, hne])
 rw [← HE.out]
 generalize clI v = z at *
 go_enter Tryz.func88, Tryz.ntmps88
 go_wp2_with fail
 refine (HA.out _).mono ?_
 rintro e w1 ⟨rfl, hB1⟩
 have H1 := Lib.hid hB1
 clear hB1
 go_wp2
 go_ret
 exact ⟨rfl, H1.out⟩
theorem elL : El Tryz.prog 98 3 (.int .i64 0) 8 := ⟨by kernel_rfl, by kernel_rfl, fun _ => by kernel_rfl, rfl⟩
set_option maxHeartbeats 400000
def SdI (w : World) (n : Nat) (xs : List Int) (i : Value) (wr : World) : Prop := ∃ j : Nat, j ≤ n ∧ i = .int .i64 (j : Int) ∧ (∀ q, q < j → -127 ≤ gi xs q ∧ gi xs q ≤ 127) ∧ Below w.heap.size w wr
def SdP (b : Bool) (w : World) (e : Ending) (w' : World) : Prop := ∃ r : Int, e = .returned (.int .i64 r) ∧ (decide (0 ≤ r) = !b) ∧ Below w.heap.size w w'
theorem soidx_any (A : Option Addr) (n c : Nat) (xs : List Int) (w : World) (h : Rd .i64 w A n c xs) :
 Calls Tryz.prog 145 #[.slice A n c, .func (.func 88) #[] #[]] w (SdP (SoftB xs) w) := by
 have hbd := h.bd.1
 have HR := Lib.hid h
 have HL := Lib.hid h.len
 have HV1 := Lib.hid (fun v W => svalid1_any v W)
 clear h
 go_enter Tryz.func145, Tryz.ntmps145
 go_wp2
 go_loopw [8] (fun i wr => SdI w n xs i wr) (fun i _ => n - (intOf i).toNat)
 case atStart => exact ⟨0, by omega, rfl, (by intro q hq; omega), Below.refl _ _⟩
 case round =>
  obtain ⟨j, hj, rfl, hv, hB⟩ := hrel
  have HV := Lib.hid hv
  have HB := Lib.hid hB
  by_cases hlt : j < n
  · have hr := Rdv.below HR.out hB
    have hc := Rd.cell hr hlt
    have hix := fun W => Rdv.ix hr elL hlt .i64 W
    clear hv hB hr
    by_cases h1 : -127 ≤ gi xs j ∧ gi xs j ≤ 127
    · have h1' : (!decide (-127 ≤ gi xs j ∧ gi xs j ≤ 127)) = false := by simp; omega
      have H1 := Lib.hid h1; clear h1
      have HW := Lib.hid (HV1.out (gi xs j) wr)
      rw [h1'] at HW
      clear h1'
      obtain ⟨v, hve⟩ : ∃ v, v = gi xs j := ⟨_, rfl⟩
      rw [← hve] at hc HW
      have HVE := Lib.hid hve
      clear hve
      go_wp2_with fail
      refine HW.out.mono ?_
      rintro e w1 ⟨rfl, hB1⟩
      have HB1 := Lib.hid (HB.out.trans (hB1.mono HB.out.size))
      clear hB1
      go_wp2
      go_roundw
      case rel => exact ⟨j + 1, by omega, by go_num, (fun q hq => lt_succ_cases HV.out H1.out q hq), HB1.out⟩
      case measure => simp [intOf]; omega
    · have h1' : (!decide (-127 ≤ gi xs j ∧ gi xs j ≤ 127)) = true := by simp; omega
      have hf := Lib.hid (softB_f (by rw [HL.out]; exact hlt) h1)
      have HW := Lib.hid (HV1.out (gi xs j) wr)
      rw [h1'] at HW
      clear h1' h1
      generalize gi xs j = v at *
      go_wp2_with fail
      refine HW.out.mono ?_
      rintro e w1 ⟨rfl, hB1⟩
      have HB1 := Lib.hid (HB.out.trans (hB1.mono HB.out.size))
      clear hB1
      go_wp2
      go_ret
      exact ⟨_, rfl, by rw [hf.out]; simp, HB1.out⟩
  · have hf := Lib.hid (softB_t (xs := xs) (by rw [HL.out]; intro q hq; exact hv q (by omega)))
    clear hv hB
    go_wp2
    go_ret
    exact ⟨_, rfl, by rw [hf.out]; simp, HB.out⟩
theorem socont_any (A : Option Addr) (n c : Nat) (xs : List Int) (w : World) (h : Rd .i64 w A n c xs) :
 Calls Tryz.prog 87 #[.slice A n c, .func (.func 88) #[] #[]] w fun e w' => e = .returned (.bool (!SoftB xs)) ∧ Below w.heap.size w w' := by
 have HI := Lib.hid (soidx_any A n c xs w h)
 generalize SoftB xs = b at *
 clear h
 go_enter Tryz.func87, Tryz.ntmps87
 go_wp2_with fail
 refine HI.out.mono ?_
 rintro e w1 ⟨r, rfl, hr, hB⟩
 have HB := Lib.hid hB
 have HR := Lib.hid hr
 clear hB hr
 go_wp2
 go_ret
 refine ⟨ret_bool ?_, HB.out⟩
 have := HR.out
 cases b <;> simp_all
theorem slval_any (A : Option Addr) (n c : Nat) (xs : List Int) (w : World) (h : Rd .i64 w A n c xs) :
 Calls Tryz.prog 46 #[.slice A n c] w fun e w' => e = .returned (.bool (SoftB xs)) ∧ Below w.heap.size w w' := by
 have HI := Lib.hid (socont_any A n c xs w h)
 generalize SoftB xs = b at *
 clear h
 go_enter Tryz.func46, Tryz.ntmps46
 go_wp2_with fail
 refine HI.out.mono ?_
 rintro e w1 ⟨rfl, hB⟩
 have HB := Lib.hid hB
 clear hB
 go_wp2
 go_ret
 exact ⟨ret_bool (by simp), HB.out⟩
theorem svalid_any (A : Option Addr) (n c : Nat) (xs : List Int) (w : World) (h : Rd .i64 w A n c xs) :
 Calls Tryz.prog 21 #[.slice A n c] w fun e w' => e = .returned (.bool (SoftB xs)) ∧ Below w.heap.size w w' := by
 have HI := Lib.hid (slval_any A n c xs w h)
 have hfld : ∀ W, (Instr.field 100 (.agg #[.slice A n c]) 0).run Tryz.prog W = .ok (.slice A n c) W := fun _ => by kernel_rfl
 generalize SoftB xs = b at *
 clear h
 go_enter Tryz.func21, Tryz.ntmps21
 go_wp2_with fail
 refine HI.out.mono ?_
 rintro e w1 ⟨rfl, hB⟩
 have HB := Lib.hid hB
 clear hB
 go_wp2
 go_ret
 exact ⟨rfl, HB.out⟩
theorem sarg_any (b : Bool) (w : World) : Calls Tryz.prog 36 #[.bool b] w fun e w' => e = .returned (.int .i64 (if b = true then 0 else 2)) ∧ w = w' := by
 cases b <;> simp only [if_true, Bool.false_eq_true, if_false] <;> (
  go_enter Tryz.func36, Tryz.ntmps36
  go_wp2
  go_ret
  exact ⟨rfl, rfl⟩)
end Go.Proofs.YtkdfefpnhaebfaaGreat
namespace Go.Proofs.YtkdfefpnhaebfaaGreat.CM
/-! Plain arithmetic of the checksum: no program in sight. -/
def st (L p r : Nat) (b : Bool) : Nat := ((2 * r) % 2 ^ L) ^^^ (if (r.testBit (L - 1)) ^^ b then p else 0)
def run (L p r : Nat) (bs : List Bool) : Nat := bs.foldl (st L p) r
section
variable {L p : Nat}
theorem st_lt (hp : p < 2 ^ L) (r : Nat) (b : Bool) : st L p r b < 2 ^ L := by
 unfold st
 refine Nat.xor_lt_two_pow (Nat.mod_lt _ (Nat.two_pow_pos L)) ?_
 split
 · exact hp
 · exact Nat.two_pow_pos L
theorem run_lt (hp : p < 2 ^ L) : ∀ (bs : List Bool) (r : Nat), r < 2 ^ L → run L p r bs < 2 ^ L
 | [], _, h => h
 | x :: bs, r, _ => run_lt hp bs _ (st_lt hp r x)
def bitsOf (L r : Nat) : List Bool := (List.range L).map fun t => r.testBit (L - 1 - t)
end
end Go.Proofs.YtkdfefpnhaebfaaGreat.CM
namespace Go.Proofs.YtkdfefpnhaebfaaGreat.Cr
open CM Go.RowKit
def ib (b : Bool) : Int := if b then 1 else 0
def bl (xs : List Int) : List Bool := xs.map fun x => decide (x = 1)
def Bit (xs : List Int) : Prop := ∀ x ∈ xs, x = 0 ∨ x = 1
theorem ib_bl {xs : List Int} (h : Bit xs) : (bl xs).map ib = xs := by
 unfold bl; rw [List.map_map]
 conv => rhs; rw [← List.map_id xs]
 apply List.map_congr_left
 intro x hx
 rcases h x hx with rfl | rfl <;> rfl
theorem bit_ib (bs : List Bool) : Bit (bs.map ib) := by
 intro x hx
 obtain ⟨b, _, rfl⟩ := List.mem_map.1 hx
 cases b <;> simp [ib]
theorem bit_valid {xs : List Int} (h : Bit xs) : ValidB xs = true := by
 unfold ValidB; rw [List.all_eq_true]; intro x hx
 rcases h x hx with rfl | rfl <;> rfl
theorem bit_of {xs : List Int} (h0 : ∀ x ∈ xs, 0 ≤ x) (h : ValidB xs = true) : Bit xs := by
 unfold ValidB at h; rw [List.all_eq_true] at h
 intro x hx
 have h1 := h0 x hx
 have h2 := h x hx
 simp at h2; omega
theorem ofInt_u32 (a : Nat) (ha : a < 4294967296) : (BitVec.ofInt 32 (a : Int)).toNat = a := by
 rw [BitVec.ofInt_natCast, BitVec.toNat_ofNat]; exact Nat.mod_eq_of_lt (by omega)
theorem u32_and_nat (a b : Nat) (ha : a < 4294967296) (hb : b < 4294967296) : bits .and .u32 (a : Int) (b : Int) = ((a &&& b : Nat) : Int) := by
 have hx : a &&& b < 2 ^ 32 := Nat.and_lt_two_pow _ (by omega)
 show IntKind.u32.wrap ((BitVec.ofInt 32 (a : Int) &&& BitVec.ofInt 32 (b : Int)).toNat : Int) = _
 rw [BitVec.toNat_and, ofInt_u32 a ha, ofInt_u32 b hb, IntKind.wrap_u32]
 omega
theorem u32_xor_nat (a b : Nat) (ha : a < 4294967296) (hb : b < 4294967296) : bits .xor .u32 (a : Int) (b : Int) = ((a ^^^ b : Nat) : Int) := by
 have hx : a ^^^ b < 2 ^ 32 := Nat.xor_lt_two_pow (by omega) (by omega)
 show IntKind.u32.wrap ((BitVec.ofInt 32 (a : Int) ^^^ BitVec.ofInt 32 (b : Int)).toNat : Int) = _
 rw [BitVec.toNat_xor, ofInt_u32 a ha, ofInt_u32 b hb, IntKind.wrap_u32]
 omega
theorem u32_xor_ib (a b : Bool) : bits .xor .u32 (ib a) (ib b) = ib (a ^^ b) := by cases a <;> cases b <;> decide
theorem u32_and_one (x : Nat) (hx : x < 4294967296) : bits .and .u32 (x : Int) 1 = ib (x.testBit 0) := by
 have := u32_and_nat x 1 hx (by decide)
 rw [show ((1 : Nat) : Int) = 1 from rfl] at this
 rw [this, Nat.and_one_is_mod, Nat.testBit_zero]
 rcases Nat.mod_two_eq_zero_or_one x with h | h <;> rw [h] <;> rfl
theorem two_pow_le {L : Nat} (hL : L ≤ 31) : 2 ^ L ≤ 2147483648 := Nat.pow_le_pow_right (n := 2) (by decide) hL
theorem div_pow_bit (r j : Nat) : (r / 2 ^ j).testBit 0 = r.testBit j := by
 rw [← Nat.shiftRight_eq_div_pow, Nat.testBit_shiftRight, Nat.add_zero]
theorem crcStep_nat {L p r : Nat} (_ : 1 ≤ L) (hL2 : L ≤ 31) (hp : p < 2 ^ L) (hr : r < 2 ^ L) (b : Bool) : crcStep L (p : Int) (r : Int) (ib b) = (st L p r b : Int) := by
 have h2 := two_pow_le hL2
 have hpos := Nat.two_pow_pos L
 unfold crcStep
 have e1 : (r : Int) * 2 % 4294967296 = ((2 * r : Nat) : Int) := by omega
 have e2 : ((2 : Int) ^ L % 4294967296 - 1) % 4294967296 = ((2 ^ L - 1 : Nat) : Int) := by
  have : (2 : Int) ^ L = ((2 ^ L : Nat) : Int) := by simp
  rw [this]; omega
 have e3 : (r : Int) / 2 ^ (L - 1) = ((r / 2 ^ (L - 1) : Nat) : Int) := by simp
 have e4 : (ib b) % 4294967296 = ib b := by cases b <;> rfl
 have hq : r / 2 ^ (L - 1) < 4294967296 := Nat.lt_of_le_of_lt (Nat.div_le_self _ _) (by omega)
 rw [e1, e2, e3, e4, u32_and_nat _ _ (by omega) (by omega), Nat.and_two_pow_sub_one_eq_mod, u32_and_one _ hq, div_pow_bit, u32_xor_ib]
 have e5 : ib (r.testBit (L - 1) ^^ b) * (p : Int) % 4294967296 = (((if (r.testBit (L - 1) ^^ b) then p else 0) : Nat) : Int) := by
  cases (r.testBit (L - 1) ^^ b)
  · simp [ib]
  · simp only [ib, if_true]; omega
 rw [e5, u32_xor_nat _ _ (Nat.lt_of_lt_of_le (Nat.mod_lt _ hpos) (by omega)) (by split <;> omega)]
 rfl
theorem crcFold_nat {L p : Nat} (hL : 1 ≤ L) (hL2 : L ≤ 31) (hp : p < 2 ^ L) (bs : List Bool) : crcFold L (p : Int) (bs.map ib) = (run L p 0 bs : Int) := by
 have key : ∀ (bs : List Bool) (r : Nat), r < 2 ^ L → (bs.map ib).foldl (crcStep L (p : Int)) (r : Int) = (run L p r bs : Int) := by
  intro bs
  induction bs with
  | nil => intro r _; rfl
  | cons b bs ih =>
    intro r hr
    rw [List.map_cons, List.foldl_cons, crcStep_nat hL hL2 hp hr]
    exact ih _ (st_lt hp r b)
 exact key bs 0 (Nat.two_pow_pos L)
theorem splitL_nat {L r : Nat} (hr : r < 4294967296) : splitL (r : Int) L = (bitsOf L r).map ib := by
 unfold splitL bitsOf
 rw [List.map_map]
 apply List.map_congr_left
 intro j hj
 have e3 : (r : Int) / 2 ^ (L - 1 - j) = ((r / 2 ^ (L - 1 - j) : Nat) : Int) := by simp
 have hq : r / 2 ^ (L - 1 - j) < 4294967296 := Nat.lt_of_le_of_lt (Nat.div_le_self _ _) hr
 rw [e3, u32_and_one _ hq, div_pow_bit]
 simp only [Function.comp]
 cases r.testBit (L - 1 - j) <;> decide
def nPoly (k : Int) : Nat := if k = 1 then 0x864cfb else if k = 2 then 0x800063 else if k = 3 then 0x1021 else if k = 4 then 0x9b else 0
theorem sPoly_nat (k : Int) : sPoly k = (nPoly k : Int) := by unfold sPoly nPoly; repeat (split <;> try rfl)
theorem nPoly_ok {k : Int} (h : sLen k ≠ 0) : 1 ≤ sLen k ∧ sLen k ≤ 31 ∧ nPoly k < 2 ^ sLen k ∧ (nPoly k).testBit 0 = true := by
 unfold sLen at h
 by_cases h1 : k = 1
 · subst h1; decide
 by_cases h2 : k = 2
 · subst h2; decide
 by_cases h3 : k = 3
 · subst h3; decide
 by_cases h4 : k = 4
 · subst h4; decide
 · exfalso; apply h; simp [h1, h2, h3, h4]
theorem crcSum_bits {k : Int} (h : sLen k ≠ 0) (bs : List Bool) : crcSum k (bs.map ib) = (bitsOf (sLen k) (run (sLen k) (nPoly k) 0 bs)).map ib := by
 obtain ⟨h1, h2, h3, h4⟩ := nPoly_ok h
 unfold crcSum
 rw [sPoly_nat, crcFold_nat h1 h2 h3, splitL_nat]
 have := run_lt h3 bs 0 (Nat.two_pow_pos _)
 have := two_pow_le h2
 omega
/-! ### the reference's long division -/
theorem gi_set (m : List Int) (i t : Nat) (v : Int) (hi : i < m.length) : gi (m.set i v) t = if i = t then v else gi m t := by
 unfold gi
 simp only [List.getD_eq_getElem?_getD, List.getElem?_set]
 split
 · rename_i h; subst h; simp
 · rfl
theorem crcSum_len (k : Int) (xs : List Int) : (crcSum k xs).length = sLen k := by unfold crcSum; rw [splitL_len]
theorem bit_sum {k : Int} (h : sLen k ≠ 0) {xs : List Int} (hx : Bit xs) : Bit (crcSum k xs) := by
 rw [← ib_bl hx, crcSum_bits h]; exact bit_ib _
theorem bit_app {xs ys : List Int} (hx : Bit xs) (hy : Bit ys) : Bit (xs ++ ys) := by
 intro x h; rcases List.mem_append.1 h with h | h
 · exact hx x h
 · exact hy x h
theorem bit_take {xs : List Int} (n : Nat) (hx : Bit xs) : Bit (xs.take n) := fun x h => hx x (List.mem_of_mem_take h)
theorem bit_zeros (n : Nat) : Bit (List.replicate n 0) := by
 intro x h; rw [List.mem_replicate] at h; exact .inl h.2
end Go.Proofs.YtkdfefpnhaebfaaGreat.Cr
namespace Go.Proofs.YtkdfefpnhaebfaaGreat.Cr
open Go.RowKit CM
theorem list_ofg {P : Program} {w : World} {ops : Array Oper} {rest : List Oper} {o : Oper} {a : Act} {Q : Exit → Act → World → Prop} (hw : Region.wanted o (yielded ops a.tmps) = true) (h : ∀ K : Act → World → Prop, (∀ a w, wpList P ops Q rest a w → K a w) → o.wp P a w K Q) : wpList P ops Q (o :: rest) a w :=
 wpList_step fun K hK => by rw [if_pos hw]; exact h K hK
end Go.Proofs.YtkdfefpnhaebfaaGreat.Cr
namespace Go.Proofs.YtkdfefpnhaebfaaGreat.Cr
open Go.RowKit CM
end Go.Proofs.YtkdfefpnhaebfaaGreat.Cr
namespace Go.Proofs.YtkdfefpnhaebfaaGreat.Cr
open Go.RowKit CM
end Go.Proofs.YtkdfefpnhaebfaaGreat.Cr
namespace Go.Proofs.YtkdfefpnhaebfaaGreat.Cr
def SZ (j : Nat) : Nat := if j < 60 then 40 + 8 * j else if j < 92 then 528 + 16 * (j - 60) else if j < 124 then 1056 + 32 * (j - 92) else 2112 + 64 * (j - 124)
def VK (k : Int) : Prop := (40 ≤ k ∧ k ≤ 512 ∧ k % 8 = 0) ∨ (528 ≤ k ∧ k ≤ 1024 ∧ k % 16 = 0) ∨ (1056 ≤ k ∧ k ≤ 2048 ∧ k % 32 = 0) ∨ (2112 ≤ k ∧ k ≤ 6144 ∧ k % 64 = 0)
instance (k : Int) : Decidable (VK k) := by unfold VK; infer_instance
theorem SZ_vk (j : Nat) (hj : j < 188) : VK (SZ j : Int) := by
 unfold VK SZ
 split
 · omega
 · split
   · omega
   · split <;> omega
theorem SZ_mono {i j : Nat} (h : i < j) : SZ i < SZ j := by
 unfold SZ
 repeat' split
 all_goals omega
theorem SZ_le {i j : Nat} (h : i ≤ j) : SZ i ≤ SZ j := by
 rcases Nat.lt_or_eq_of_le h with h | rfl
 · exact Nat.le_of_lt (SZ_mono h)
 · exact Nat.le_refl _
theorem SZ_gap {j : Nat} (hj : j + 1 < 188) : SZ (j + 1) ≤ SZ j + 64 := by
 unfold SZ
 repeat' split
 all_goals omega
theorem SZ_lo (j : Nat) : 40 ≤ SZ j := by
 unfold SZ
 repeat' split
 all_goals omega
theorem SZ_hi {j : Nat} (hj : j < 188) : SZ j ≤ 6144 := by
 unfold SZ
 repeat' split
 all_goals omega
def ix (n : Nat) : Nat := if n ≤ 40 then 0 else if n ≤ 512 then (n - 33) / 8 else if n ≤ 528 then 60 else if n ≤ 1024 then 60 + (n - 513) / 16 else if n ≤ 1056 then 92 else if n ≤ 2048 then 92 + (n - 1025) / 32 else if n ≤ 2112 then 124 else 124 + (n - 2049) / 64
theorem ix_lt {n : Nat} (h : n ≤ 6144) : ix n < 188 := by
 unfold ix
 repeat' split
 all_goals omega
theorem ix_ge {n : Nat} (h : n ≤ 6144) : n ≤ SZ (ix n) := by
 unfold ix
 repeat' split
 all_goals (unfold SZ; repeat' split)
 all_goals omega
theorem ix_below {n j : Nat} (hj : j < ix n) (h : n ≤ 6144) : SZ j < n := by
 have h1 : SZ (ix n - 1) < n := by
  have h0 : 0 < ix n := by omega
  revert h0
  unfold ix
  repeat' split
  all_goals intro h0
  all_goals (unfold SZ; repeat' split)
  all_goals omega
 exact Nat.lt_of_le_of_lt (SZ_le (by omega)) h1
theorem ix_pos {n : Nat} (h : 40 < n) : 0 < ix n := by
 unfold ix
 repeat' split
 all_goals omega
def nx (n : Nat) : Nat := SZ (ix n)
theorem nx_vk {n : Nat} (hn : n ≤ 6144) : VK (nx n : Int) := SZ_vk _ (ix_lt hn)
theorem nx_ge {n : Nat} (hn : n ≤ 6144) : n ≤ nx n := ix_ge hn
theorem nx_le {n : Nat} (hn : n ≤ 6144) : nx n ≤ 6144 := SZ_hi (ix_lt hn)
def pv (n : Nat) : Nat := SZ (ix n - 1)
theorem pv_lt {n : Nat} (hn : n ≤ 6144) (h : 40 < n) : pv n < n := ix_below (by have := ix_pos h; omega) hn
theorem pv_vk {n : Nat} (hn : n ≤ 6144) : VK (pv n : Int) := SZ_vk _ (by have := ix_lt hn; omega)
theorem pv_gap {n : Nat} (hn : n ≤ 6144) (h : 40 < n) : nx n ≤ pv n + 64 := by
 have h1 := ix_pos h
 have h2 := ix_lt hn
 have := SZ_gap (j := ix n - 1) (by omega)
 rw [show ix n - 1 + 1 = ix n by omega] at this
 exact this
/-! ### The layout -/
def bC (b : Nat) : Nat := if b ≤ 6144 then 1 else (b + 6119) / 6120
def ck (b : Nat) : Nat := if b ≤ 6144 then 0 else 24
def tl (b : Nat) : Nat := b + bC b * ck b
def av (b : Nat) : Nat := (tl b + bC b - 1) / bC b
def lo (b : Nat) : Nat := nx (av b)
def sh (b : Nat) : Nat := if b ≤ 6144 then 0 else pv (av b)
def shs (b : Nat) : Nat := if b ≤ 6144 then 0 else (bC b * lo b - tl b) / (lo b - sh b)
def los (b : Nat) : Nat := bC b - shs b
def fi (b : Nat) : Nat := los b * lo b + shs b * sh b - tl b
def sz (b i : Nat) : Nat := if i < shs b then sh b else lo b
theorem bC_pos {b : Nat} : 1 ≤ bC b := by unfold bC; split <;> omega
theorem bC_le {b : Nat} (hb : b ≤ 79560) : bC b ≤ 13 := by unfold bC; split <;> omega
theorem bC_one {b : Nat} (h : b ≤ 6144) : bC b = 1 := by unfold bC; rw [if_pos h]
theorem bC_two {b : Nat} (h : ¬ b ≤ 6144) : 2 ≤ bC b := by unfold bC; rw [if_neg h]; omega
theorem av_one {b : Nat} (h : b ≤ 6144) : av b = b := by unfold av tl; rw [bC_one h]; unfold ck; rw [if_pos h]; omega
theorem av_le {b : Nat} : av b ≤ 6144 := by
 by_cases h : b ≤ 6144
 · rw [av_one h]; exact h
 · have h2 := bC_two h
   unfold av
   have h3 : b ≤ 6120 * bC b := by unfold bC; rw [if_neg h]; omega
   have h4 : tl b ≤ 6144 * bC b := by unfold tl ck; rw [if_neg h]; omega
   rw [← Nat.lt_succ_iff, Nat.div_lt_iff_lt_mul (by omega)]
   omega
theorem av_big {b : Nat} (h : ¬ b ≤ 6144) : 3000 < av b := by
 have h2 := bC_two h
 have h3 : 6120 * (bC b - 1) ≤ b + 6119 - 6120 := by unfold bC; rw [if_neg h]; omega
 have h4 : 3001 * bC b ≤ tl b := by unfold tl ck; rw [if_neg h]; omega
 unfold av
 have : 3001 ≤ (tl b + bC b - 1) / bC b := by rw [Nat.le_div_iff_mul_le (by omega)]; omega
 omega
theorem av_mul {b : Nat} : tl b ≤ av b * bC b ∧ (1 ≤ b → (av b - 1) * bC b < tl b) := by
 have h := @bC_pos b
 unfold av
 have h1 := Nat.div_add_mod (tl b + bC b - 1) (bC b)
 have h2 := Nat.mod_lt (tl b + bC b - 1) (show bC b > 0 by omega)
 have h3 : bC b * ((tl b + bC b - 1) / bC b) = (tl b + bC b - 1) / bC b * bC b := Nat.mul_comm _ _
 have h4 : 0 < tl b ∨ b = 0 := by unfold tl; omega
 constructor
 · omega
 · intro hb
   rw [Nat.sub_mul, Nat.one_mul]; omega
theorem lo_ge {b : Nat} : av b ≤ lo b := nx_ge av_le
theorem lo_le {b : Nat} : lo b ≤ 6144 := nx_le av_le
theorem sh_lt {b : Nat} (h : ¬ b ≤ 6144) : sh b < av b ∧ lo b ≤ sh b + 64 ∧ 2000 < sh b := by
 have h1 := av_big h
 have h2 := @av_le b
 unfold sh lo
 rw [if_neg h]
 have h3 := pv_lt h2 (by omega)
 have h4 := pv_gap h2 (by omega)
 have h5 := nx_ge h2
 omega
theorem sh_le {b : Nat} : sh b ≤ lo b := by
 by_cases h : b ≤ 6144
 · unfold sh; rw [if_pos h]; omega
 · have := sh_lt h; have := @lo_ge b; omega
theorem tl_le {b : Nat} : tl b ≤ bC b * lo b := by
 have h1 := (@av_mul b).1
 have h2 := Nat.mul_le_mul_right (bC b) (@lo_ge b)
 rw [Nat.mul_comm (bC b)]; omega
theorem shs_lt {b : Nat} (hb : 1 ≤ b) : shs b < bC b := by
 unfold shs
 split
 · exact bC_pos
 · rename_i h
   have h1 := sh_lt h
   have h2 := @lo_ge b
   rw [Nat.div_lt_iff_lt_mul (by omega)]
   have h3 := (@av_mul b).2 hb
   have h4 : sh b * bC b ≤ (av b - 1) * bC b := Nat.mul_le_mul_right _ (by omega)
   rw [Nat.mul_sub, Nat.mul_comm (bC b) (sh b)]
   have h5 : sh b * bC b ≤ bC b * lo b := by rw [Nat.mul_comm]; exact Nat.mul_le_mul_left _ sh_le
   have h6 := @tl_le b
   omega
theorem sum_eq {b : Nat} (hb : 1 ≤ b) : los b * lo b + shs b * sh b = bC b * lo b - shs b * (lo b - sh b) := by
 have h1 := shs_lt hb
 have h2 := @sh_le b
 unfold los
 have h3 : shs b * lo b ≤ bC b * lo b := Nat.mul_le_mul_right _ (by omega)
 have h4 : shs b * sh b ≤ shs b * lo b := Nat.mul_le_mul_left _ h2
 rw [Nat.sub_mul, Nat.mul_sub]; omega
theorem shs_mul {b : Nat} (hb : 1 ≤ b) : shs b * (lo b - sh b) + tl b ≤ bC b * lo b ∧ (¬ b ≤ 6144 → bC b * lo b < shs b * (lo b - sh b) + tl b + (lo b - sh b)) := by
 have h0 := @tl_le b
 by_cases h : b ≤ 6144
 · refine ⟨?_, fun h' => absurd h h'⟩
   have : shs b = 0 := by unfold shs; rw [if_pos h]
   rw [this]; omega
 · have h1 := sh_lt h
   have h2 := @lo_ge b
   have e : shs b = (bC b * lo b - tl b) / (lo b - sh b) := by unfold shs; rw [if_neg h]
   have h3 := Nat.div_add_mod (bC b * lo b - tl b) (lo b - sh b)
   have h4 := Nat.mod_lt (bC b * lo b - tl b) (show lo b - sh b > 0 by omega)
   rw [← e, Nat.mul_comm] at h3
   omega
theorem fi_eq {b : Nat} (hb : 1 ≤ b) : tl b + fi b = los b * lo b + shs b * sh b := by
 have h1 := shs_mul hb
 have h2 := sum_eq hb
 unfold fi; omega
theorem fi_lt {b : Nat} (hb : 1 ≤ b) (hb2 : b ≤ 79560) : fi b < 64 := by
 have h1 := shs_mul hb
 have h2 := sum_eq hb
 have h3 := fi_eq hb
 by_cases h : b ≤ 6144
 · have e1 : shs b = 0 := by unfold shs; rw [if_pos h]
   have e2 : bC b = 1 := bC_one h
   have e3 : tl b = b := by unfold tl ck; rw [if_pos h]; omega
   have e4 : lo b ≤ (if b ≤ 40 then 40 else b + 63) := by
    unfold lo; rw [av_one h]
    split
    · rename_i h9
      have : ix b = 0 := by unfold ix; rw [if_pos h9]
      unfold nx; rw [this]; decide
    · have := pv_gap h (by omega); have := pv_lt h (by omega); omega
   unfold los at h3
   rw [e1, e2, e3] at h3
   split at e4 <;> omega
 · have := sh_lt h
   have := h1.2 h
   omega
theorem sz_ge {b i : Nat} (hb : 1 ≤ b) : ck b + (if i = 0 then fi b else 0) < sz b i ∧ sz b i ≤ 6144 := by
 have h3 := @lo_le b
 have h4 := @sh_le b
 by_cases h : b ≤ 6144
 · have e1 : shs b = 0 := by unfold shs; rw [if_pos h]
   have e2 : bC b = 1 := bC_one h
   have e3 : tl b = b := by unfold tl ck; rw [if_pos h]; omega
   have h5 := fi_eq hb
   unfold los at h5
   rw [e1, e2, e3] at h5
   have h6 := @lo_ge b
   rw [av_one h] at h6
   unfold sz; rw [e1]
   have e4 : ck b = 0 := by unfold ck; rw [if_pos h]
   rw [e4]
   simp only [Nat.not_lt_zero, if_false]
   split <;> omega
 · have e4 : ck b = 24 := by unfold ck; rw [if_neg h]
   have := sh_lt h
   have h7 := (shs_mul hb).2 h
   have h8 := fi_eq hb
   have h9 := sum_eq hb
   unfold sz
   split <;> split <;> omega
open CM Go.RowKit
end Go.Proofs.YtkdfefpnhaebfaaGreat.Cr
