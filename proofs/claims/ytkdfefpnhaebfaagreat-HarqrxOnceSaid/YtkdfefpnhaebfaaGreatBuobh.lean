/- Bundle. Conditions: none. -/
import Derived.Test.YtkdfefpnhaebfaaGreatBuobg
import Derived.Lib.SliceRun
set_option linter.unusedVariables false
set_option linter.unusedSimpArgs false
namespace Go.Proofs.YtkdfefpnhaebfaaGreat.Cr
open Go.RowKit
set_option maxRecDepth 100000
set_option maxHeartbeats 4000000
def W115 (WB k R : Nat) (W : World) : Prop := W.cell? ⟨WB, 0, none⟩ = some (.int .i64 k) ∧ W.cell? ⟨WB, 2, none⟩ = some (.int .i64 R)
theorem W115.alloc {WB k R : Nat} {W : World} (h : W115 WB k R W) (o : Obj) : W115 WB k R (W.alloc o) := ⟨cell_below h.1 (bal (Below.refl _ W) o), cell_below h.2 (bal (Below.refl _ W) o)⟩
def FoJ (k f N D WB DB base : Nat) (A : Option Addr) (Rv Sv : Value) (w : World) (i : Value) (wr : World) : Prop := ∃ s : Nat, s ≤ 3 ∧ i = .int .i64 s ∧ Own .i64 3 wr base A (3 * N) (3 * N) (fulS k f s 0) ∧ Blk wr DB 3 [.int .i64 D] ∧ Blk wr WB 174 [.int .i64 k, .int .i64 f, Rv, Sv] ∧ Below w.heap.size w wr
structure FiS (k f s N D WB DB SB PB base : Nat) (A O : Option Addr) (Rv Sv : Value) (w : World) (i : Value) (wr : World) (j : Nat) : Prop where
 le : j ≤ N
 ie : i = .int .i64 j
 ow : Own .i64 3 wr base A (3 * N) (3 * N) (fulS k f s j)
 dd : Blk wr DB 3 [.int .i64 D]
 ww : Blk wr WB 174 [.int .i64 k, .int .i64 f, Rv, Sv]
 ss : Blk wr SB 3 [.int .i64 s]
 pp : s < 2 → Blk wr PB 88 [.func (.func 210) #[] #[.pointer (some ⟨SB, 0, none⟩), .pointer (some ⟨DB, 0, none⟩)]]
 rr : Rd .i64 wr O N N (ordL D s)
 nn : blk A < blk O
 bb : Below w.heap.size w wr
def FiI (k f s N D WB DB SB PB base : Nat) (A O : Option Addr) (Rv Sv : Value) (w : World) (i : Value) (wr : World) : Prop := ∃ j : Nat, FiS k f s N D WB DB SB PB base A O Rv Sv w i wr j
theorem FiI.next {k f s N D WB DB SB PB base : Nat} {A O : Option Addr} {Rv Sv : Value} {w : World} {i : Value} {wr : World} {j : Nat} (h : FiS k f s N D WB DB SB PB base A O Rv Sv w i wr j) (hj : j < N) (hp : pS N s j < 3 * N)
 {u : Int} (hst : (fulS k f s j).set (pS N s j) u = fulS k f s (j + 1)) {v : Int} (hv : u = v) (hA : blk A ≠ DB ∧ blk A ≠ WB) (hS : blk A ≠ SB) (hP : s < 2 → blk A ≠ PB) (hb : w.heap.size ≤ blk A) :
 FiS k f s N D WB DB SB PB base A O Rv Sv w (.int .i64 ((j + 1 : Nat) : Int)) (wr.setCell (adr A (pS N s j)) (.int .i64 v)) (j + 1) := by
 have h2 := Own.set_ h.ow hp v
 have h3 := h2.1
 rw [← hv, hst, hv] at h3
 have ne : ∀ {B : Nat}, blk A ≠ B → some B ≠ some (blk A) := fun hne e => hne (Option.some.inj e).symm
 exact ⟨hj, rfl, h3, h.dd.grown h2.2 (ne hA.1), h.ww.grown h2.2 (ne hA.2), h.ss.grown h2.2 (ne hS), fun hs => (h.pp hs).grown h2.2 (ne (hP hs)), Rdv.grown h.rr h2.2 (fun _ => ne (by have := h.nn; omega)), h.nn, h.bb.grown h2.2 h.bb.size (fun k e => by cases e; exact hb)⟩
theorem full_any (k f : Nat) (Z : Int) (w : World) (h1k : 40 ≤ k) (h2k : k ≤ 6144) : Calls Tryz.prog 162 #[.agg #[.int .i64 k, .int .i64 f, .int .i64 (rwS (k + 4)), .int .i64 Z]] w fun e w' => ∃ A, e = .returned (.slice A (3 * nB k) (3 * nB k)) ∧ Own .i64 3 w' w.heap.size A (3 * nB k) (3 * nB k) (bufL k f) ∧ Below w.heap.size w w' := by
 have hR := rwS_le (d := k + 4) (by omega)
 have hN := nB_le h2k
 have hN1 := nB_pos (k := k)
 have HOR := Lib.hid (fun s (hs : s ≤ 2) W => order_ok (k + 4) s W (by omega) (by omega) hs)
 have HG := Lib.hid (fun s j (h : j < nB k) => ordL_gi (k + 4) s j h)
 have HBD := Lib.hid (fun s j => ordV_bd (d := k + 4) (s := s) (k := j) (by omega))
 have HSET := Lib.hid (fun s j (hs : s ≤ 2) (h : j < nB k) => fulS_set (k := k) (f := f) hs h)
 have HNXT := Lib.hid (fulS_next k f)
 have HALL := Lib.hid (fulS_all k f)
 have HNON := Lib.hid (fulS_none k f)
 have hNR : nB k = 32 * rwS (k + 4) := rfl
 simp only [← hNR] at HOR
 generalize nB k = N at *
 generalize rwS (k + 4) = R at *
 obtain ⟨D, hD⟩ : ∃ D, D = k + 4 := ⟨_, rfl⟩
 have HDK := Lib.hid hD
 rw [← hD] at HOR HG HBD HSET
 obtain ⟨WB, hWB⟩ : ∃ B, B = w.heap.size := ⟨_, rfl⟩
 obtain ⟨DB, hDB⟩ : ∃ B, B = w.heap.size + 1 := ⟨_, rfl⟩
 obtain ⟨W0, hW0⟩ : ∃ W, W = w.alloc (.cells #[.int .i64 k, .int .i64 f, .int .i64 R, .int .i64 Z] 174) := ⟨_, rfl⟩
 have hw0 : Blk W0 WB 174 [.int .i64 k, .int .i64 f, .int .i64 R, .int .i64 Z] := by rw [hW0, hWB]; exact Blk.new w [.int .i64 k, .int .i64 f, .int .i64 R, .int .i64 Z] 174 rfl
 have hb0 : Below w.heap.size w W0 := by rw [hW0]; exact bal (Below.refl _ w) _
 have hz0 : W0.heap.size = DB := by rw [hW0, hDB]; simp
 have HZ0 := Lib.hid hz0
 have HW0 := Lib.hid hW0
 have HWE := Lib.hid hWB
 have HW : Hid (W115 WB k R W0.drew) := Lib.hid ⟨hw0.cell (j := 0) rfl, hw0.cell (j := 2) rfl⟩
 have hk4 : (k : Int) + 4 = (D : Int) := by rw [hD]; push_cast; rfl
 have hnn : 32 * (R : Int) = (N : Int) := by omega
 have hwk : IntKind.i64.wrap ((k : Int) + 4) = (D : Int) := by rw [IntKind.wrap_i64]; omega
 have hwn : IntKind.i64.wrap (32 * (R : Int)) = (N : Int) := by rw [IntKind.wrap_i64]; omega
 have hwd : WB ≠ DB := by omega
 have HNR := Lib.hid hNR
 clear hW0 hWB hD hk4 hnn hNR
 go_enter Tryz.func162, Tryz.ntmps162
 go_wp2_with fail
 rw [← HWE.out, ← HW0.out]
 refine wp_nopanic ?_
 refine P_start (W115 WB k R) 8 9 #[false, false, false, false, false, false, false, false, false] (by kernel_rfl) (by kernel_rfl) (by kernel_rfl) ?_
 refine P_takeW 0 14 (.pointer (some ⟨WB, 0, none⟩)) #[true, false, false, false, false, false, false, false, false] rfl rfl (by kernel_rfl) (by kernel_rfl) (by kernel_rfl) (by kernel_rfl) (by decide) (fun _ _ _ h => h) (Or.inl ⟨by rfl, fun W hS => by go_simp⟩) HW.out ?_
 simp only [yq0, yq1, yq2]
 refine P_take 1 15 (.int .i64 (k : Int)) #[true, true, false, false, false, false, false, false, false] rfl rfl (by kernel_rfl) (by kernel_rfl) (by kernel_rfl) (by kernel_rfl) (by kernel_rfl) (by kernel_rfl) (by decide) (fun _ _ _ h => h) (Or.inl ⟨by rfl, fun W hS => by obtain ⟨s0, s1⟩ := hS; go_simp⟩) HW.out ?_
 simp only [yq0, yq1, yq2]
 refine P_takeW 2 16 (.int .i64 (D : Int)) #[true, true, true, false, false, false, false, false, false] rfl rfl (by kernel_rfl) (by kernel_rfl) (by kernel_rfl) (by kernel_rfl) (by decide) (fun _ _ _ h => h) (Or.inl ⟨by rfl, fun W hS => by go_simp⟩) HW.out ?_
 simp only [yq0, yq1, yq2]
 refine P_takeW 3 17 (.pointer (some ⟨WB, 2, none⟩)) #[true, true, true, true, false, false, false, false, false] rfl rfl (by kernel_rfl) (by kernel_rfl) (by kernel_rfl) (by kernel_rfl) (by decide) (fun _ _ _ h => h) (Or.inl ⟨by rfl, fun W hS => by go_simp⟩) HW.out ?_
 simp only [yq0, yq1, yq2]
 refine P_take 4 18 (.int .i64 (R : Int)) #[true, true, true, true, true, false, false, false, false] rfl rfl (by kernel_rfl) (by kernel_rfl) (by kernel_rfl) (by kernel_rfl) (by kernel_rfl) (by kernel_rfl) (by decide) (fun _ _ _ h => h) (Or.inl ⟨by rfl, fun W hS => by obtain ⟨s0, s1⟩ := hS; go_simp⟩) HW.out ?_
 simp only [yq0, yq1, yq2]
 refine P_takeW 5 19 (.int .i64 (N : Int)) #[true, true, true, true, true, true, false, false, false] rfl rfl (by kernel_rfl) (by kernel_rfl) (by kernel_rfl) (by kernel_rfl) (by decide) (fun _ _ _ h => h) (Or.inl ⟨by rfl, fun W hS => by go_simp⟩) HW.out ?_
 simp only [yq0, yq1, yq2]
 refine P_oneS 6 #[true, true, true, true, true, true, true, false, false] rfl (by kernel_rfl) (by kernel_rfl) rfl (fun K hK => ?_)
 go_simp
 refine hK _ _ (W115.alloc HW.out _) ?_
 clear hK K
 refine P_oneS 7 #[true, true, true, true, true, true, true, true, false] rfl (by kernel_rfl) (by kernel_rfl) rfl (fun K hK => ?_)
 go_simp
 refine hK _ _ (show W115 WB k R (W0.alloc (.cells #[.int .i64 D] 3)).drew from W115.alloc HW.out _) ?_
 clear hK K
 refine P_one 8 #[true, true, true, true, true, true, true, true, true] rfl (by kernel_rfl) (by kernel_rfl) rfl (by kernel_rfl) (fun K hK => ?_)
 go_simp
 refine hK _ _ ?_
 clear hK K
 refine P_done (by kernel_rfl) ?_ _
 refine noPanic_normal ?_
 obtain ⟨W1, hW1⟩ : ∃ W, W = (W0.alloc (.cells #[.int .i64 D] 3)).drew := ⟨_, rfl⟩
 have hq1 : Below W0.heap.size W0 W1 := by rw [hW1]; exact (bal (Below.refl _ W0) _).drew
 have HD1 := Lib.hid (show Blk W1 DB 3 [.int .i64 D] by rw [hW1, ← hz0]; exact Blk.drew (Blk.new W0 [.int .i64 D] 3 rfl))
 have HW1 := Lib.hid (hw0.below hq1)
 have HB1 := Lib.hid (hb0.trans (hq1.mono hb0.size))
 have HADW := Lib.hid (show w.heap.size + 1 < W1.heap.size by have := HD1.out.lt; omega)
 rw [← hW1, ← hDB]
 clear hW1 hq1 hw0 hb0 hz0 HW0 HW hDB hwd
 go_wp2_with (at_make; refine list_of rfl fun K hK => wp_mk (n := 3 * N) _ _ 39 rfl el34 rfl rfl (by omega) (by unfold maxLen; omega) ?_
              intro A w3 hO3 hB3 hA
              have HO3 := Lib.hid hO3
              have HA := Lib.hid hA
              have HB3 := Lib.hid hB3
              clear hO3 hB3 hA
              refine hK _ _ ?_
              clear hK K)
 obtain ⟨Rv, hRv⟩ : ∃ v, v = Value.int .i64 R := ⟨_, rfl⟩
 obtain ⟨Sv, hSv⟩ : ∃ v, v = Value.int .i64 Z := ⟨_, rfl⟩
 have hbA : W1.heap.size ≤ blk A ∧ blk A < w3.heap.size := Ownv.blk_ge HO3.out (by omega)
 have HAW := Lib.hid (show blk A ≠ DB ∧ blk A ≠ WB from ⟨by have := HD1.out.lt; omega, by have := HW1.out.lt; omega⟩)
 have HBA2 := Lib.hid (show w.heap.size ≤ blk A by have := HADW.out; omega)
 have HB9 := Lib.hid (HB1.out.trans (HB3.out.mono HB1.out.size))
 have HW9 : Hid (Blk w3 WB 174 [.int .i64 k, .int .i64 f, Rv, Sv]) := Lib.hid (by rw [hRv, hSv]; exact HW1.out.below HB3.out)
 have HD9 := Lib.hid (HD1.out.below HB3.out)
 have HBS := Lib.hid (show w.heap.size ≤ W1.heap.size by have := HADW.out; omega)
 clear hRv hSv hbA HB1 HB3 HW1 HD1 HADW
 generalize W1.heap.size = base at *
 go_loopw [23] (fun i wr => FoJ k f N D WB DB base A Rv Sv w i wr) (fun i _ => 3 - (intOf i).toNat)
 case atStart => exact ⟨0, by decide, rfl, Own.of_eq HO3.out rfl (by rw [HNON.out, List.map_replicate]), HD9.out, HW9.out, HB9.out⟩
 case round =>
  obtain ⟨s, hs, rfl, hO, hD, hW, hB⟩ := hrel
  have HO := Lib.hid hO
  have HDB := Lib.hid hD
  have HWB := Lib.hid hW
  have HB := Lib.hid hB
  have HBA := Lib.hid (Ownv.blk_ge hO (by omega)).2
  have HSW : Hid (WB < wr.heap.size ∧ DB < wr.heap.size) := Lib.hid ⟨hW.lt, hD.lt⟩
  clear hO hD hW hB HO3 HD9 HW9 HB9 HNON
  rcases (by omega : s = 0 ∨ s = 1 ∨ s = 2 ∨ s = 3) with rfl | rfl | rfl | rfl
  · have HIX := Lib.hid (fun (j : Nat) (h : j < N) => pS_lt (N := N) (s := 0) (j := j) (by decide) h)
    have hst := fun W m => run_store Tryz.prog W ⟨wr.heap.size + 1, 0, none⟩ (.func (.func 210) #[] #[.pointer (some ⟨wr.heap.size, 0, none⟩), .pointer (some ⟨DB, 0, none⟩)]) m rfl
    have hcD : ((wr.alloc (.cells #[.int .i64 0] 3)).alloc (.cells #[.func (.func 210) #[] #[.pointer (some ⟨wr.heap.size, 0, none⟩), .pointer (some ⟨DB, 0, none⟩)]] 88)).cell? ⟨DB, 0, none⟩ = some (.int .i64 D) := cell_below (HDB.out.cell rfl) (((Below.refl _ wr).alloc (Nat.le_refl _) _).alloc (by simp) _)
    go_wp2_with fail
    clear hcD
    clear hst
    obtain ⟨SB, hSB⟩ : ∃ B, B = wr.heap.size := ⟨_, rfl⟩
    obtain ⟨W2, hW2⟩ : ∃ W, W = (wr.alloc (.cells #[.int .i64 0] 3)).alloc (.cells #[.func (.func 210) #[] #[.pointer (some ⟨wr.heap.size, 0, none⟩), .pointer (some ⟨DB, 0, none⟩)]] 88) := ⟨_, rfl⟩
    have hq : Below wr.heap.size wr W2 := by rw [hW2]; exact ((Below.refl _ wr).alloc (Nat.le_refl _) _).alloc (by simp) _
    have hS2 : Blk W2 SB 3 [.int .i64 0] := by rw [hW2, hSB]; exact (Blk.new wr [.int .i64 0] 3 rfl).alloc _
    obtain ⟨PB, hPB⟩ : ∃ B, B = wr.heap.size + 1 := ⟨_, rfl⟩
    have hP2 : Blk W2 PB 88 [.func (.func 210) #[] #[.pointer (some ⟨SB, 0, none⟩), .pointer (some ⟨DB, 0, none⟩)]] := by rw [hW2, hSB, hPB]; exact Blk.new (wr.alloc _) [.func (.func 210) #[] #[.pointer (some ⟨wr.heap.size, 0, none⟩), .pointer (some ⟨DB, 0, none⟩)]] 88 (by simp)
    rw [← hW2, ← hPB, ← hSB]
    refine (HOR.out 0 (by decide) W2).mono ?_
    rintro e w3 ⟨O, rfl, hO3, hB3⟩
    have HK0 : Hid (FiI k f 0 N D WB DB SB PB base A O Rv Sv w (.int .i64 0) w3) := Lib.hid ⟨0, Nat.zero_le _, rfl, Ownv.below (Ownv.below HO.out hq) hB3, (HDB.out.below hq).below hB3, (HWB.out.below hq).below hB3, hS2.below hB3, fun _ => hP2.below hB3, Own.rd hO3, by have := HBA.out; have h4 := (Ownv.blk_ge hO3 (by omega)).1; have := hq.size; omega, HB.out.trans ((hq.trans (hB3.mono hq.size)).mono HB.out.size)⟩
    have hAS : blk A ≠ SB := by have := HBA.out; omega
    have hAP : blk A ≠ PB := by have := HBA.out; omega
    clear hq hS2 hW2 hO3 hB3 hSB hP2 hPB
    go_wp2
    go_loopw [39] (fun i wq => FiI k f 0 N D WB DB SB PB base A O Rv Sv w i wq) (fun i _ => N - (intOf i).toNat)
    case atStart => exact HK0.out
    case round =>
     clear HK0 HO HDB HWB HB
     obtain ⟨j, hj, rfl, hO, hD, hW, hS, hP, hR, hAO, hB⟩ := hrel
     by_cases hlt : j < N
     · have hco := Rd.cell hR hlt
       have hio := fun W => Rdv.ix hR el34 hlt .i64 W
       rw [HG.out 0 j hlt] at hco
       have hbd := HBD.out 0 j
       have HST := Lib.hid (HSET.out 0 j (by decide) hlt)
       have hpl := HIX.out j hlt
       have hca := Rd.cell (Own.rd hO) hpl
       have hfa := Ownv.frozen hO (by omega) (pS N 0 j)
       have hia := fun W => Rdv.ixI (Own.rd hO) el34 hpl .i64 ((j : Nat) : Int) (by unfold pS; simp; try omega) W
       have hcS := hS.cell (j := 0) (v := .int .i64 0) rfl
       have HNX := Lib.hid (fun v (hv : elV k f 0 (ordV D 0 j) = v) => FiI.next ⟨hj, rfl, hO, hD, hW, hS, hP, hR, hAO, hB⟩ hlt hpl (HST.out) hv HAW.out hAS (fun _ => hAP) HBA2.out)
       have HAT := Lib.hid (fun i h1 h2 => at1_any k f 0 WB PB SB DB Rv Sv i wr hW (hP (by decide)) hS (by rw [HDK.out] at hD; exact hD) (by decide) h2k h1 h2)
       clear hO hD hW hS hP hR hB
       generalize ordV D 0 j = v at *
       by_cases hv0 : 0 ≤ v
       · have hgv : decide (0 ≤ v) = true := by simp [hv0]
         have HA2 := Lib.hid (HAT.out v hv0 (by have := HDK.out; omega))
         have HN2 := Lib.hid (HNX.out _ rfl)
         clear HAT HNX
         generalize elV k f 0 v = ev at *
         go_wp2_with (go_at_call 211; refine HA2.out.mono ?_; rintro e w' ⟨rfl, rfl⟩)
         go_roundw
         case rel => exact ⟨j + 1, HN2.out⟩
         case measure => simp [intOf]; omega
       · have hgv : decide (0 ≤ v) = false := by simp; omega
         have hev : elV k f 0 v = -1 := by unfold elV; rw [if_pos (.inl (by omega))]
         have HN2 := Lib.hid (HNX.out _ hev)
         clear HAT HNX
         go_wp2
         go_roundw
         case rel => exact ⟨j + 1, HN2.out⟩
         case measure => simp [intOf]; omega
     · obtain rfl : j = N := by omega
       rw [HNXT.out] at hO
       have HO9 := Lib.hid hO
       have HD9 := Lib.hid hD
       have HW9 := Lib.hid hW
       have HB9 := Lib.hid hB
       clear hO hD hW hB hS hP hR
       go_wp2
       go_roundw
       case rel => exact ⟨0 + 1, by decide, by go_num, HO9.out, HD9.out, HW9.out, HB9.out⟩
       case measure => simp [intOf]
  · have HIX := Lib.hid (fun (j : Nat) (h : j < N) => pS_lt (N := N) (s := 1) (j := j) (by decide) h)
    have hst := fun W m => run_store Tryz.prog W ⟨wr.heap.size + 1, 0, none⟩ (.func (.func 210) #[] #[.pointer (some ⟨wr.heap.size, 0, none⟩), .pointer (some ⟨DB, 0, none⟩)]) m rfl
    have hcD : ((wr.alloc (.cells #[.int .i64 1] 3)).alloc (.cells #[.func (.func 210) #[] #[.pointer (some ⟨wr.heap.size, 0, none⟩), .pointer (some ⟨DB, 0, none⟩)]] 88)).cell? ⟨DB, 0, none⟩ = some (.int .i64 D) := cell_below (HDB.out.cell rfl) (((Below.refl _ wr).alloc (Nat.le_refl _) _).alloc (by simp) _)
    go_wp2_with fail
    clear hcD
    clear hst
    obtain ⟨SB, hSB⟩ : ∃ B, B = wr.heap.size := ⟨_, rfl⟩
    obtain ⟨W2, hW2⟩ : ∃ W, W = (wr.alloc (.cells #[.int .i64 1] 3)).alloc (.cells #[.func (.func 210) #[] #[.pointer (some ⟨wr.heap.size, 0, none⟩), .pointer (some ⟨DB, 0, none⟩)]] 88) := ⟨_, rfl⟩
    have hq : Below wr.heap.size wr W2 := by rw [hW2]; exact ((Below.refl _ wr).alloc (Nat.le_refl _) _).alloc (by simp) _
    have hS2 : Blk W2 SB 3 [.int .i64 1] := by rw [hW2, hSB]; exact (Blk.new wr [.int .i64 1] 3 rfl).alloc _
    obtain ⟨PB, hPB⟩ : ∃ B, B = wr.heap.size + 1 := ⟨_, rfl⟩
    have hP2 : Blk W2 PB 88 [.func (.func 210) #[] #[.pointer (some ⟨SB, 0, none⟩), .pointer (some ⟨DB, 0, none⟩)]] := by rw [hW2, hSB, hPB]; exact Blk.new (wr.alloc _) [.func (.func 210) #[] #[.pointer (some ⟨wr.heap.size, 0, none⟩), .pointer (some ⟨DB, 0, none⟩)]] 88 (by simp)
    rw [← hW2, ← hPB, ← hSB]
    refine (HOR.out 1 (by decide) W2).mono ?_
    rintro e w3 ⟨O, rfl, hO3, hB3⟩
    have HK0 : Hid (FiI k f 1 N D WB DB SB PB base A O Rv Sv w (.int .i64 0) w3) := Lib.hid ⟨0, Nat.zero_le _, rfl, Ownv.below (Ownv.below HO.out hq) hB3, (HDB.out.below hq).below hB3, (HWB.out.below hq).below hB3, hS2.below hB3, fun _ => hP2.below hB3, Own.rd hO3, by have := HBA.out; have h4 := (Ownv.blk_ge hO3 (by omega)).1; have := hq.size; omega, HB.out.trans ((hq.trans (hB3.mono hq.size)).mono HB.out.size)⟩
    have hAS : blk A ≠ SB := by have := HBA.out; omega
    have hAP : blk A ≠ PB := by have := HBA.out; omega
    clear hq hS2 hW2 hO3 hB3 hSB hP2 hPB
    go_wp2
    go_loopw [39] (fun i wq => FiI k f 1 N D WB DB SB PB base A O Rv Sv w i wq) (fun i _ => N - (intOf i).toNat)
    case atStart => exact HK0.out
    case round =>
     clear HK0 HO HDB HWB HB
     obtain ⟨j, hj, rfl, hO, hD, hW, hS, hP, hR, hAO, hB⟩ := hrel
     by_cases hlt : j < N
     · have hco := Rd.cell hR hlt
       have hio := fun W => Rdv.ix hR el34 hlt .i64 W
       rw [HG.out 1 j hlt] at hco
       have hbd := HBD.out 1 j
       have HST := Lib.hid (HSET.out 1 j (by decide) hlt)
       have hpl := HIX.out j hlt
       have hca := Rd.cell (Own.rd hO) hpl
       have hfa := Ownv.frozen hO (by omega) (pS N 1 j)
       have hia := fun W => Rdv.ixI (Own.rd hO) el34 hpl .i64 (((N : Nat) : Int) + 2 * (j : Int)) (by unfold pS; simp; try omega) W
       have hcS := hS.cell (j := 0) (v := .int .i64 1) rfl
       have HNX := Lib.hid (fun v (hv : elV k f 1 (ordV D 1 j) = v) => FiI.next ⟨hj, rfl, hO, hD, hW, hS, hP, hR, hAO, hB⟩ hlt hpl (HST.out) hv HAW.out hAS (fun _ => hAP) HBA2.out)
       have HAT := Lib.hid (fun i h1 h2 => at1_any k f 1 WB PB SB DB Rv Sv i wr hW (hP (by decide)) hS (by rw [HDK.out] at hD; exact hD) (by decide) h2k h1 h2)
       clear hO hD hW hS hP hR hB
       generalize ordV D 1 j = v at *
       by_cases hv0 : 0 ≤ v
       · have hgv : decide (0 ≤ v) = true := by simp [hv0]
         have HA2 := Lib.hid (HAT.out v hv0 (by have := HDK.out; omega))
         have HN2 := Lib.hid (HNX.out _ rfl)
         clear HAT HNX
         generalize elV k f 1 v = ev at *
         go_wp2_with (go_at_call 211; refine HA2.out.mono ?_; rintro e w' ⟨rfl, rfl⟩)
         go_roundw
         case rel => exact ⟨j + 1, HN2.out⟩
         case measure => simp [intOf]; omega
       · have hgv : decide (0 ≤ v) = false := by simp; omega
         have hev : elV k f 1 v = -1 := by unfold elV; rw [if_pos (.inl (by omega))]
         have HN2 := Lib.hid (HNX.out _ hev)
         clear HAT HNX
         go_wp2
         go_roundw
         case rel => exact ⟨j + 1, HN2.out⟩
         case measure => simp [intOf]; omega
     · obtain rfl : j = N := by omega
       rw [HNXT.out] at hO
       have HO9 := Lib.hid hO
       have HD9 := Lib.hid hD
       have HW9 := Lib.hid hW
       have HB9 := Lib.hid hB
       clear hO hD hW hB hS hP hR
       go_wp2
       go_roundw
       case rel => exact ⟨1 + 1, by decide, by go_num, HO9.out, HD9.out, HW9.out, HB9.out⟩
       case measure => simp [intOf]
  · have HIX := Lib.hid (fun (j : Nat) (h : j < N) => pS_lt (N := N) (s := 2) (j := j) (by decide) h)
    skip
    have hcD : (wr.alloc (.cells #[.int .i64 2] 3)).cell? ⟨DB, 0, none⟩ = some (.int .i64 D) := cell_below (HDB.out.cell rfl) ((Below.refl _ wr).alloc (Nat.le_refl _) _)
    go_wp2_with fail
    clear hcD
    skip
    obtain ⟨SB, hSB⟩ : ∃ B, B = wr.heap.size := ⟨_, rfl⟩
    obtain ⟨W2, hW2⟩ : ∃ W, W = wr.alloc (.cells #[.int .i64 2] 3) := ⟨_, rfl⟩
    have hq : Below wr.heap.size wr W2 := by rw [hW2]; exact (Below.refl _ wr).alloc (Nat.le_refl _) _
    have hS2 : Blk W2 SB 3 [.int .i64 2] := by rw [hW2, hSB]; exact Blk.new wr [.int .i64 2] 3 rfl
    rw [← hW2, ← hSB]
    refine (HOR.out 2 (by decide) W2).mono ?_
    rintro e w3 ⟨O, rfl, hO3, hB3⟩
    have HK0 : Hid (FiI k f 2 N D WB DB SB SB base A O Rv Sv w (.int .i64 0) w3) := Lib.hid ⟨0, Nat.zero_le _, rfl, Ownv.below (Ownv.below HO.out hq) hB3, (HDB.out.below hq).below hB3, (HWB.out.below hq).below hB3, hS2.below hB3, fun h => absurd h (by decide), Own.rd hO3, by have := HBA.out; have h4 := (Ownv.blk_ge hO3 (by omega)).1; have := hq.size; omega, HB.out.trans ((hq.trans (hB3.mono hq.size)).mono HB.out.size)⟩
    have hAS : blk A ≠ SB := by have := HBA.out; omega
    clear hq hS2 hW2 hO3 hB3 hSB
    go_wp2
    go_loopw [39] (fun i wq => FiI k f 2 N D WB DB SB SB base A O Rv Sv w i wq) (fun i _ => N - (intOf i).toNat)
    case atStart => exact HK0.out
    case round =>
     clear HK0 HO HDB HWB HB
     obtain ⟨j, hj, rfl, hO, hD, hW, hS, hP, hR, hAO, hB⟩ := hrel
     by_cases hlt : j < N
     · have hco := Rd.cell hR hlt
       have hio := fun W => Rdv.ix hR el34 hlt .i64 W
       rw [HG.out 2 j hlt] at hco
       have hbd := HBD.out 2 j
       have HST := Lib.hid (HSET.out 2 j (by decide) hlt)
       have hpl := HIX.out j hlt
       have hca := Rd.cell (Own.rd hO) hpl
       have hfa := Ownv.frozen hO (by omega) (pS N 2 j)
       have hia := fun W => Rdv.ixI (Own.rd hO) el34 hpl .i64 (((N : Nat) : Int) + 2 * (j : Int) + 2 - 1) (by unfold pS; simp; try omega) W
       have hcS := hS.cell (j := 0) (v := .int .i64 2) rfl
       have HNX := Lib.hid (fun v (hv : elV k f 2 (ordV D 2 j) = v) => FiI.next ⟨hj, rfl, hO, hD, hW, hS, hP, hR, hAO, hB⟩ hlt hpl (HST.out) hv HAW.out hAS (fun h => absurd h (by decide)) HBA2.out)
       have HAT := Lib.hid (fun i h1 h2 => at0_any 2 D SB DB i wr hS hD (by decide) (by have := HDK.out; omega) h1 h2)
       clear hO hD hW hS hP hR hB
       generalize ordV D 2 j = v at *
       by_cases hv0 : 0 ≤ v
       · have hgv : decide (0 ≤ v) = true := by simp [hv0]
         have HA2 := Lib.hid (HAT.out v hv0 (by have := HDK.out; omega))
         rw [HDK.out, at_lo (k := k) (f := f) (s := 2) hv0 (fun h => absurd h (by decide))] at HA2
         have HN2 := Lib.hid (HNX.out _ rfl)
         clear HAT HNX
         generalize elV k f 2 v = ev at *
         go_wp2_with (go_at_call 210; refine HA2.out.mono ?_; rintro e w' ⟨rfl, rfl⟩)
         go_roundw
         case rel => exact ⟨j + 1, HN2.out⟩
         case measure => simp [intOf]; omega
       · have hgv : decide (0 ≤ v) = false := by simp; omega
         have hev : elV k f 2 v = -1 := by unfold elV; rw [if_pos (.inl (by omega))]
         have HN2 := Lib.hid (HNX.out _ hev)
         clear HAT HNX
         go_wp2
         go_roundw
         case rel => exact ⟨j + 1, HN2.out⟩
         case measure => simp [intOf]; omega
     · obtain rfl : j = N := by omega
       rw [HNXT.out] at hO
       have HO9 := Lib.hid hO
       have HD9 := Lib.hid hD
       have HW9 := Lib.hid hW
       have HB9 := Lib.hid hB
       clear hO hD hW hB hS hP hR
       go_wp2
       go_roundw
       case rel => exact ⟨2 + 1, by decide, by go_num, HO9.out, HD9.out, HW9.out, HB9.out⟩
       case measure => simp [intOf]
  · rw [HALL.out] at HO
    go_wp2
    go_ret
    exact ⟨A, rfl, Ownv.mono HO.out HBS.out, HB.out⟩
theorem info122 : (Tryz.prog.info? 174).map (·.size) = some 4 := by kernel_rfl
theorem res122 {W : World} {b : Nat} {m : List Int} (h : Blk W b 174 (ints8 m)) (hl : m.length = 4) : (loadVar 174 ⟨b, 0, none⟩).run Tryz.prog W = .ok (.agg (ints8 m).toArray) W :=
 run_loadVar_row (P := Tryz.prog) W b 174 174 _ (0, 0) _ h Tryz.underlying174 rfl (by rw [info122]; simp [ints8, hl])
theorem szB_bd (k : Nat) {lim : Int} (h : 1 ≤ lim) : 1 ≤ szB k lim ∧ szB k lim ≤ 3 * nB k := by
 have := nB_pos (k := k)
 unfold szB
 split <;> omega
theorem rof_ok (k f : Nat) (lim : Int) (w : World) (h1 : 40 ≤ k) (h2 : k ≤ 6144) (hf : f < k) (hl : 1 ≤ lim) : Calls Tryz.prog 107 #[.int .i64 k, .int .i64 f, .int .i64 lim] w fun e w' => e = .returned (.tuple #[.agg #[.int .i64 k, .int .i64 f, .int .i64 (rwS (k + 4)), .int .i64 (szB k lim)], .int .i64 0]) ∧ Below w.heap.size w w' := by
 have HR := Lib.hid (fun W => crows_any (k + 4) W (by omega) (by omega))
 have hsz : szB k lim = if lim ≤ ((3 * nB k : Nat) : Int) then lim.toNat else 3 * nB k := rfl
 have hN := nB_le h2
 have hNR : nB k = 32 * rwS (k + 4) := rfl
 generalize szB k lim = Z at *
 generalize nB k = N at *
 generalize rwS (k + 4) = R at *
 push_cast at HR
 have q1 : decide ((k : Int) < 40) = false := by simp; omega
 have q2 : decide ((6144 : Int) < (k : Int)) = false := by simp; omega
 have q3 : decide ((f : Int) < 0) = false := by simp
 have q4 : decide ((k : Int) ≤ (f : Int)) = false := by simp; omega
 have q5 : decide (lim < 1) = false := by simp; omega
 have hmin : min lim (96 * (R : Int)) = (Z : Int) := by rw [hsz]; split <;> omega
 have hwm : IntKind.i64.wrap (96 * (R : Int)) = 96 * (R : Int) := by rw [IntKind.wrap_i64]; omega
 by_cases hlim : lim ≤ 96 * (R : Int)
 · have hz : lim = (Z : Int) := by rw [hsz]; split <;> omega
   clear hsz hNR hmin
   go_enter Tryz.func107, Tryz.ntmps107
   go_wp2_with (go_at_call 161; refine (HR.out _).mono ?_; rintro e w1 ⟨rfl, rfl⟩)
   refine bodyPost_ret (v := .tuple #[.agg #[.int .i64 k, .int .i64 f, .int .i64 R, .int .i64 Z], .int .i64 0]) ?_ rfl ⟨rfl, bal (Below.refl _ w) _⟩
   have l1 := res122 (m := [(k : Int), f, R, Z]) (Blk.new w (ints8 [(k : Int), f, R, Z]) 174 rfl) rfl
   simp only [ints8, List.map_cons, List.map_nil] at l1
   rw [results_ct rfl]
   simp [Act.put, asAddr, l1, Sem.run_pure, Result.andThen]
 · have hz : 96 * (R : Int) = (Z : Int) := by rw [hsz]; split <;> omega
   have hlz : (Z : Int) < lim := by omega
   have hZb : Z ≤ 20000 := by omega
   clear hlim
   clear hsz hNR hmin
   go_enter Tryz.func107, Tryz.ntmps107
   go_wp2_with (go_at_call 161; refine (HR.out _).mono ?_; rintro e w1 ⟨rfl, rfl⟩)
   refine bodyPost_ret (v := .tuple #[.agg #[.int .i64 k, .int .i64 f, .int .i64 R, .int .i64 Z], .int .i64 0]) ?_ rfl ⟨rfl, bal (Below.refl _ w) _⟩
   have l1 := res122 (m := [(k : Int), f, R, Z]) (Blk.new w (ints8 [(k : Int), f, R, Z]) 174 rfl) rfl
   simp only [ints8, List.map_cons, List.map_nil] at l1
   rw [results_ct rfl]
   simp [Act.put, asAddr, l1, Sem.run_pure, Result.andThen]
theorem buf0_ok (k f Z : Nat) (w : World) (h1 : 40 ≤ k) (h2 : k ≤ 6144) (hZ : Z ≤ 3 * nB k) : Calls Tryz.prog 108 #[.agg #[.int .i64 k, .int .i64 f, .int .i64 (rwS (k + 4)), .int .i64 Z]] w fun e w' => ∃ A, e = .returned (.slice A Z (3 * nB k)) ∧ Rd .i64 w' A Z (3 * nB k) ((bufL k f).take Z) ∧ Below w.heap.size w w' := by
 have HF := Lib.hid (fun W => full_any k f Z W h1 h2)
 have hN := nB_le h2
 generalize nB k = N at *
 generalize rwS (k + 4) = R at *
 obtain ⟨WB, hWB⟩ : ∃ B, B = w.heap.size := ⟨_, rfl⟩
 obtain ⟨W0, hW0⟩ : ∃ W, W = w.alloc (.cells #[.int .i64 k, .int .i64 f, .int .i64 R, .int .i64 Z] 174) := ⟨_, rfl⟩
 have hw0 : Blk W0 WB 174 [.int .i64 k, .int .i64 f, .int .i64 R, .int .i64 Z] := by rw [hW0, hWB]; exact Blk.new w [.int .i64 k, .int .i64 f, .int .i64 R, .int .i64 Z] 174 rfl
 have hb0 : Below w.heap.size w W0 := by rw [hW0]; exact bal (Below.refl _ w) _
 have HW := Lib.hid (hw0.drew)
 go_enter Tryz.func108, Tryz.ntmps108
 go_wp2_with fail
 rw [← hWB, ← hW0]
 clear hWB hW0 hw0
 refine wp_nopanic ?_
 refine P_start (fun W => Blk W WB 174 [.int .i64 k, .int .i64 f, .int .i64 R, .int .i64 Z]) 5 6 #[false, false, false, false, false, false] (by kernel_rfl) (by kernel_rfl) (by kernel_rfl) ?_
 refine P_take 0 3 (.agg #[.int .i64 k, .int .i64 f, .int .i64 R, .int .i64 Z]) #[true, false, false, false, false, false] rfl rfl (by kernel_rfl) (by kernel_rfl) (by kernel_rfl) (by kernel_rfl) (by kernel_rfl) (by kernel_rfl) (by decide) (fun _ _ _ h => h) (yieldsIf_load_mid rfl 174 (.tmp 1) rfl WB 0 rfl [.int .i64 k, .int .i64 f, .int .i64 R, .int .i64 Z] _ (fun W hS j v hj => by rw [Nat.zero_add]; exact Blk.cell hS hj) Tryz.underlying174 rfl info122) HW.out ?_
 simp only [yq0, yq1, yq2]
 refine P_takeW 2 5 (.pointer (some ⟨WB, 3, none⟩)) #[true, false, true, false, false, false] rfl rfl (by kernel_rfl) (by kernel_rfl) (by kernel_rfl) (by kernel_rfl) (by decide) (fun _ _ _ h => h) (Or.inl ⟨by rfl, fun W hS => by go_simp⟩) HW.out ?_
 simp only [yq0, yq1, yq2]
 refine P_take 3 6 (.int .i64 (Z : Int)) #[true, false, true, true, false, false] rfl rfl (by kernel_rfl) (by kernel_rfl) (by kernel_rfl) (by kernel_rfl) (by kernel_rfl) (by kernel_rfl) (by decide) (fun _ _ _ h => h) (Or.inl ⟨by rfl, fun W hS => by have s0 := Blk.cell hS (j := 3) (v := .int .i64 Z) rfl; go_simp⟩) HW.out ?_
 simp only [yq0, yq1, yq2]
 refine P_oneS 1 #[true, true, true, true, false, false] rfl (by kernel_rfl) (by kernel_rfl) rfl (fun K hK => ?_)
 go_simp
 refine (HF.out _).mono ?_
 rintro e w5 ⟨A, rfl, hO5, hB5⟩
 have hB5' := (Below.refl w.heap.size W0).drew.trans (hB5.mono (by have := hb0.size; exact this))
 have HW5 := Lib.hid (HW.out.below hB5)
 have HO5 := Lib.hid hO5
 have HB5 := Lib.hid (hb0.trans hB5')
 have hsl := fun W => Rdv.slh (Own.rd hO5) el34 .i64 (m := Z) (by omega) W
 clear hO5 hB5 hB5'
 refine hK _ _ HW5.out ?_
 clear hK K
 refine P_takeW 4 7 (.slice A Z (3 * N)) #[true, true, true, true, true, false] rfl rfl (by kernel_rfl) (by kernel_rfl) (by kernel_rfl) (by kernel_rfl) (by decide) (fun _ _ _ h => h) (Or.inl ⟨by rfl, fun W hS => by go_simp⟩) HW5.out ?_
 simp only [yq0, yq1, yq2]
 refine P_one 5 #[true, true, true, true, true, true] rfl (by kernel_rfl) (by kernel_rfl) rfl (by kernel_rfl) (fun K hK => ?_)
 go_simp
 refine hK _ _ ?_
 clear hK K
 refine P_done (by kernel_rfl) ?_ _
 refine noPanic_normal ?_
 go_wp2
 go_ret
 exact ⟨A, rfl, Rd.upto (Own.rd HO5.out) (by omega), HB5.out⟩
theorem cloneI_any (A : Option Addr) (n c : Nat) (xs : List Int) (w : World) (h : Rd .i64 w A n c xs) (hn : n ≤ 200000) :
 Calls Tryz.prog 67 #[.slice A n c] w fun e w' => ∃ A' c', e = .returned (.slice A' n c') ∧ Own .i64 3 w' w.heap.size A' n c' xs ∧ Below w.heap.size w w' := by
 have e1 := fun W => Lib.run_eql_slice_nil (P := Tryz.prog) W 39 3 A n c 0 0 el34.u
 cases A with
 | none =>
   have hc := h.nil rfl
   have hnc := h.le
   obtain rfl : n = 0 := by omega
   subst hc
   obtain rfl : xs = [] := List.eq_nil_of_length_eq_zero h.len
   go_enter Tryz.func67, Tryz.ntmps67
   go_wp2
   go_ret
   exact ⟨none, 0, rfl, Own.nilv .i64 3 w _, Below.refl _ _⟩
 | some ad =>
   have h1 := Rdv.alloc h (.cells #[] 3)
   have hO0 : Ownv 3 (w.alloc (.cells #[] 3)) w.heap.size (some ⟨w.heap.size, 0, none⟩) 0 0 [] := Ownv.lit w #[] 3 rfl (Nat.le_refl _) (Nat.zero_le _)
   go_enter Tryz.func67, Tryz.ntmps67
   go_wp2_with (at_builtin; go_loud (refine list_of rfl fun K hK => wp_app _ _ 39 rfl el34 rfl rfl hO0 h1 (oneCell_ints .i64 xs) (by omega) (by unfold maxLen; omega) (by simp) ?_); intro A' c' w' hO hg; refine hK _ _ ?_; clear hK K)
   go_ret
   exact ⟨A', c', ret_sl rfl rfl rfl, Own.of_eq hO (Nat.zero_add n) (List.nil_append _), (Below.refl _ _).grown (grownBy_of_alloc hg) (Nat.le_refl _) (by simp [Value.ownBlock])⟩
theorem buffer_ok (k f : Nat) (lim : Int) (w : World) (h1 : 40 ≤ k) (h2 : k ≤ 6144) (hf : f < k) (hl : 1 ≤ lim) : Calls Tryz.prog 114 #[.int .i64 k, .int .i64 f, .int .i64 lim] w fun e w' => ∃ A c, e = .returned (.tuple #[.slice A (szB k lim) c, .int .i64 0]) ∧ Own .i64 3 w' w.heap.size A (szB k lim) c ((bufL k f).take (szB k lim)) ∧ Below w.heap.size w w' := by
 have HOF := Lib.hid (fun W => rof_ok k f lim W h1 h2 hf hl)
 have hzb := szB_bd k hl
 have HBF := Lib.hid (fun W => buf0_ok k f (szB k lim) W h1 h2 hzb.2)
 have hN := nB_le h2
 generalize szB k lim = Z at *
 generalize nB k = N at *
 generalize rwS (k + 4) = R at *
 go_enter Tryz.func114, Tryz.ntmps114
 go_wp2_with fail
 refine (HOF.out _).mono ?_
 rintro e w1 ⟨rfl, hB1⟩
 have HL := Lib.hid (Blk.new w1 [.int .i64 k, .int .i64 f, .int .i64 R, .int .i64 Z] 174 rfl)
 have HB1 := Lib.hid (bal hB1 (.cells #[.int .i64 k, .int .i64 f, .int .i64 R, .int .i64 Z] 174))
 have hL := HL.out
 clear hB1
 go_wp2_with (refine ldrow (cs := [.int .i64 k, .int .i64 f, .int .i64 R, .int .i64 Z]) rfl 174 (.tmp 8) rfl rfl hL _ Tryz.underlying174 rfl info122 ?_)
 clear hL
 refine (HBF.out _).mono ?_
 rintro e w2 ⟨A, rfl, hR, hB2⟩
 have HR := Lib.hid hR
 have HB2 := Lib.hid (HB1.out.trans (hB2.mono HB1.out.size))
 clear hR hB2
 go_wp2_with fail
 refine (cloneI_any A Z _ _ w2 HR.out (by omega)).mono ?_
 rintro e w3 ⟨A', c', rfl, hO, hB3⟩
 have HO := Lib.hid hO
 have HB3 := Lib.hid (HB2.out.trans (hB3.mono HB2.out.size))
 have HS := Lib.hid HB2.out.size
 clear hO hB3
 go_wp2
 go_ret2
 exact ⟨A', c', rfl, Ownv.mono HO.out HS.out, HB3.out⟩
end Go.Proofs.YtkdfefpnhaebfaaGreat.Cr
