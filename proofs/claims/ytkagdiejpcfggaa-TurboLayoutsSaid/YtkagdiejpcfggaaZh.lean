/-
  Contract of the statements' works: the chapter's examples hold. Condition: none.
-/
import Derived.Test.YtkagdiejpcfggaaZg
import Derived.Test.YtkagdiejpcfggaaZp
namespace Go.Proofs.Ytkagdiejpcfggaa
open Go.RowKit
set_option linter.unusedVariables false
theorem list_ofg {P : Program} {w : World} {ops : Array Oper} {rest : List Oper} {o : Oper} {a : Act} {Q : Exit → Act → World → Prop} (hw : Region.wanted o (yielded ops a.tmps) = true) (h : ∀ K : Act → World → Prop, (∀ a w, wpList P ops Q rest a w → K a w) → o.wp P a w K Q) : wpList P ops Q (o :: rest) a w :=
  wpList_step fun K hK => by rw [if_pos hw]; exact h K hK
def zeros132 : Array Value := (List.replicate 132 (Value.int .u8 0)).toArray
set_option maxRecDepth 100000 in
theorem mk132 (W : World) : (Instr.makeSlice 22 (.int .i64 132) (.int .i64 132)).run Try.prog W = .ok (.slice (some ⟨W.heap.size, 0, none⟩) 132 132) (W.alloc (.cells zeros132 5)) := by
  obtain ⟨i, hi, hz0, hz1, hz2⟩ := info_parts el22.i
  have hr := run_make (P := Try.prog) W 22 5 i _ el22.u hi hz0 .i64 .i64 132 132 (by omega) (Int.le_refl _) (by rw [hz2]; omega) (by omega)
  rw [hz1] at hr
  have e : madeCells (Value.int .u8 0).cells ((132 : Int).toNat * 1) = zeros132 := by
    apply Array.ext'
    rw [show (Value.int .u8 0).cells = #[Value.int .u8 0] from rfl, toList_madeCells_one]
    rfl
  rw [e] at hr
  exact hr
theorem own132 (W : World) : Own .u8 5 (W.alloc (.cells zeros132 5)) 0 (some ⟨W.heap.size, 0, none⟩) 132 132 (List.replicate 132 0) := by
  have e : zeros132.size = 132 := by simp [zeros132]
  have h := Ownv.lit (base := 0) W zeros132 5 rfl (Nat.zero_le _) (by rw [e]; unfold maxLen; omega)
  rw [e] at h
  exact Own.of_eq h rfl (by simp [zeros132])
theorem lit3 {W : World} {N : Nat} (x y z : Int) (hN : N = W.heap.size) : Rd .i64 (W.alloc (.cells #[.int .i64 x, .int .i64 y, .int .i64 z] 3)) (some ⟨N, 0, none⟩) 3 3 [x, y, z] := by
  subst hN
  exact Own.rd (Own.of_eq (Ownv.lit (base := 0) W #[.int .i64 x, .int .i64 y, .int .i64 z] 3 rfl (Nat.zero_le _) (by show 3 ≤ maxLen; unfold maxLen; omega)) rfl rfl)
theorem rd_tail {k : IntKind} {w : World} {A : Option Addr} {c : Nat} {xs : List Int} (h : Rd k w A 43 c xs) : Rd k w (cut A c 40) 3 (c - 40) (xs.drop 40) := by
  have := Rd.cut_ h (l := 40) (m := 43) (by omega) (Nat.le_refl _)
  rwa [List.take_of_length_le (by rw [h.len]; exact Nat.le_refl _)] at this
def WantInv (w0 : World) (M : Option Addr) (i : Value) (wr : World) : Prop := ∃ j : Nat, j ≤ 21 ∧ i = .int .i64 j ∧ Own .u8 5 wr w0.heap.size M 132 132 (wantN j) ∧ Below w0.heap.size w0 wr
theorem wantN_len : ∀ j, (wantN j).length = 132
  | 0 => by simp [wantN]
  | j + 1 => by rw [wantN, List.length_set]; exact wantN_len j
theorem zeros_ib (n : Nat) : (List.replicate n false).map ib = List.replicate n 0 := by rw [List.map_replicate]; rfl
theorem wantN_wf (j : Nat) : ∀ x ∈ wantN j, 0 ≤ x ∧ x < 256 := by
  induction j with
  | zero => intro x hx; rw [wantN, List.mem_replicate] at hx; rw [hx.2]; decide
  | succ j ih =>
    intro x hx
    rw [wantN] at hx
    rcases List.mem_or_eq_of_mem_set hx with h | h
    · exact ih x h
    · subst h; decide
set_option maxRecDepth 100000 in
set_option maxHeartbeats 2000000 in
theorem works_any (w : World) : Calls Try.prog 10 #[] w fun e w' => e = .returned (.bool true) ∧ Below w.heap.size w w' := by
  go_enter Try.func10, Try.ntmps10
  go_wp2_with (at_make; refine list_of rfl fun K hK => wp_mk (n := 40) _ _ 22 rfl el22 rfl rfl (by omega) (by unfold maxLen; omega) ?_; intro M0 w0 hO0 hB0 hM; refine hK _ _ ?_; clear hK K)
  have hb0 : Rd .u8 w0 M0 40 40 (bits0.map ib) := by
    have := Ownv.rd hO0
    rw [bits0, zeros_ib]
    unfold Rd
    simpa using this
  have HB0 := Lib.hid hB0
  clear hO0 hB0
  refine (enc_any M0 40 40 bits0 _ hb0 valid40).mono ?_
  rintro e w1 ⟨A, c, rfl, hA, hB1⟩
  rw [word0] at hA
  have HA := Lib.hid hA
  have HB1 := Lib.hid (HB0.out.trans (hB1.mono HB0.out.size))
  clear hA hB1 hb0
  go_wp2_with (at_make; refine list_of rfl fun K hK => wp_mk (n := 40) _ _ 22 rfl el22 rfl rfl (by omega) (by unfold maxLen; omega) ?_; intro M2 w2 hO2 hB2 hM2; refine hK _ _ ?_; clear hK K; have hO2' := Own.of_eq (k := .u8) (xs := List.replicate 40 0) hO2 rfl (by simp); have hix := fun W => Rdv.ixI (Own.rd hO2') el22 (j := 39) (by omega) .i64 39 rfl W; have hcl := Rd.cell (Own.rd hO2') (j := 39) (by omega); have hfz := Ownv.frozen hO2' (by omega) 39; have HST := Lib.hid (Own.set_ hO2' (j := 39) (by omega) 1); have HB2 := Lib.hid hB2; clear hO2 hO2' hB2)
  have hb1 : Rd .u8 (w2.setCell (adr M2 39) (.int .u8 1)) M2 40 40 (bits1.map ib) := by
    have e : bits1.map ib = (List.replicate 40 (0 : Int)).set 39 1 := by decide
    rw [e]; exact Own.rd HST.out.1
  have hBs : Below w1.heap.size w1 (w2.setCell (adr M2 39) (.int .u8 1)) := HB2.out.grown HST.out.2 HB2.out.size (fun k hk => by have := Option.some.inj hk; have := (Ownv.blk_ge HST.out.1 (by omega)).1; omega)
  refine (enc_any M2 40 40 bits1 _ hb1 valid40).mono ?_
  rintro e w3 ⟨A3, c3, rfl, hA3, hB3⟩
  rw [word1] at hA3
  have HA3 := Lib.hid hA3
  have HA1 := Lib.hid (Ownv.rd (Ownv.below (Ownv.below HA.out hBs) hB3))
  have HB3 := Lib.hid (HB1.out.trans ((hBs.trans (hB3.mono hBs.size)).mono HB1.out.size))
  clear hA3 hB3 hBs hb1 hix hcl hfz HA HB0 HB1 HB2 HST
  have hol : Ownv 3 (w3.alloc (.cells (onesL.map (Value.int .i64)).toArray 3)) w3.heap.size (some ⟨w3.heap.size, 0, none⟩) 21 21 (onesL.map (Value.int .i64)) := Ownv.lit w3 (onesL.map (Value.int .i64)).toArray 3 rfl (Nat.le_refl _) (by show 21 ≤ maxLen; unfold maxLen; omega)
  have HOL := Lib.hid hol
  clear hol
  go_wp2_with (at_make; refine list_of rfl fun K hK => wp_mk (n := 132) _ _ 22 rfl el22 rfl rfl (by omega) (by unfold maxLen; omega) ?_; intro M4 w4 hO4 hB4 hM4; refine hK _ _ ?_; clear hK K)
  have hB43 := (bal (Below.refl _ w3) (.cells (onesL.map (Value.int .i64)).toArray 3)).trans (hB4.mono (by simp))
  obtain ⟨w5, hw5⟩ : ∃ W, W = w3.alloc (.cells (onesL.map (Value.int .i64)).toArray 3) := ⟨_, rfl⟩
  have hol := HOL.out
  have hb35 := bal (Below.refl _ w3) (.cells (onesL.map (Value.int .i64)).toArray 3)
  have hs5 : w5.heap.size = w3.heap.size + 1 := by rw [hw5]; simp
  change Ownv 5 w4 (w3.alloc (.cells (onesL.map (Value.int .i64)).toArray 3)).heap.size M4 132 132 _ at hO4
  change Below (w3.alloc (.cells (onesL.map (Value.int .i64)).toArray 3)).heap.size (w3.alloc (.cells (onesL.map (Value.int .i64)).toArray 3)) w4 at hB4
  rw [← hw5] at hO4 hB4 hol hb35
  have hO4' : Own .u8 5 w4 w5.heap.size M4 132 132 (wantN 0) := Own.of_eq hO4 rfl (by simp [wantN])
  have hwi : WantInv w5 M4 (.int .i64 0) w4 := ⟨0, by omega, rfl, hO4', hB4⟩
  have HON : Hid (Rd .i64 w5 (some ⟨w3.heap.size, 0, none⟩) 21 21 onesL) := Lib.hid (Ownv.rd hol)
  have HB5 := Lib.hid (HB3.out.trans (hb35.mono HB3.out.size))
  have HA35 := Lib.hid (Ownv.rd (Ownv.below HA3.out hb35))
  have HA15 := Lib.hid (Rdv.below HA1.out hb35)
  clear hO4 hB4 hO4' HOL hol hw5 hs5 hb35 HA3 HA1 HB3
  go_loopw [8] (fun i wr => WantInv w5 M4 i wr) (fun i _ => 21 - (intOf i).toNat)
  case atStart => exact hwi
  case round =>
    obtain ⟨j, hj, rfl, hO, hB⟩ := hrel
    clear hwi
    by_cases hlt : j < 21
    · have hR := Rdv.below HON.out hB
      have hix := fun W => Rdv.ix hR el33 hlt .i64 W
      have hcell := Rd.cell hR hlt
      rw [adr_some, Nat.zero_add] at hcell
      obtain ⟨q0, q1⟩ := ones_bd j hlt
      obtain ⟨p, hp⟩ : ∃ p : Nat, gi onesL j = (p : Int) := ⟨(gi onesL j).toNat, by omega⟩
      rw [hp] at hcell q0 q1
      have hp132 : p < 132 := by omega
      have HW : Hid (wantN (j + 1) = (wantN j).set p 1) := Lib.hid (by rw [wantN, hp, Int.toNat_natCast])
      have hix2 := fun W => Rdv.ix (Own.rd hO) el22 hp132 .i64 W
      have hcell2 := Rd.cell (Own.rd hO) hp132
      have hfz := Ownv.frozen hO (by omega) p
      have HSET := Lib.hid (Own.set_ hO hp132 1)
      have HB := Lib.hid hB
      have HGE := Lib.hid (Ownv.blk_ge hO (by omega)).1
      clear hp hR hO hB
      go_wp2
      go_roundw
      case rel => exact ⟨j + 1, by omega, by go_num, by rw [HW.out]; exact HSET.out.1, HB.out.grown HSET.out.2 HB.out.size (fun k hk => by have := Option.some.inj hk; have := HGE.out; omega)⟩
      case measure => simp [intOf]; omega
    · obtain rfl : j = 21 := by omega
      have HO := Lib.hid hO
      have HBq := Lib.hid (HB5.out.trans (hB.mono HB5.out.size))
      have HA3 := Lib.hid (Rdv.below HA35.out hB)
      have HA1 := Lib.hid (Rdv.below HA15.out hB)
      clear hO hB
      go_wp2_with fail
      refine (lay_any 40 1 _ valid40 (.inl rfl)).mono ?_
      rintro e w6 ⟨S1, cs1, P1, cp1, rfl, hS1, hP1, hB6⟩
      have HW6 := Lib.hid (Ownv.rd (Ownv.below HO.out hB6))
      have HA36 := Lib.hid (Rdv.below HA3.out hB6)
      have HA16 := Lib.hid (Rdv.below HA1.out hB6)
      have HB6 := Lib.hid (HBq.out.trans (hB6.mono HBq.out.size))
      have HS1 := Lib.hid hS1
      have HP1 := Lib.hid hP1
      clear hS1 hP1 hB6
      go_wp2_with fail
      refine (lay_any 40 2 _ valid40 (.inr rfl)).mono ?_
      rintro e w7 ⟨S2, cs2, P2, cp2, rfl, hS2, hP2, hB7⟩
      have HW7 := Lib.hid (Rdv.below HW6.out hB7)
      have HA37 := Lib.hid (Rdv.below HA36.out hB7)
      have HA17 := Lib.hid (Rdv.below HA16.out hB7)
      have HS17 := Lib.hid (Ownv.rd (Ownv.below HS1.out hB7))
      have HP17 := Lib.hid (Ownv.rd (Ownv.below HP1.out hB7))
      have HB7 := Lib.hid (HB6.out.trans (hB7.mono HB6.out.size))
      have HS27 := Lib.hid (Ownv.rd hS2)
      have HP27 := Lib.hid (Ownv.rd hP2)
      clear hS2 hP2 hB7
      go_wp2_with (go_at_call 14; refine (num_any _ _).mono ?_; rintro e w8 ⟨rfl, rfl⟩)
      have e132 : (if validK (40 : Int) = true then 3 * ((40 : Int) + 4) else 0) = 132 := by decide
      have e0 : (if validK (41 : Int) = true then 3 * ((41 : Int) + 4) else 0) = 0 := by decide
      have E132 := Lib.hid e132
      have E0 := Lib.hid e0
      clear e132 e0
      refine (size_any 40 _).mono ?_
      rintro e w8 ⟨rfl, hB8⟩
      rw [E132.out]
      have HC8 := Lib.hid hB8
      clear hB8
      go_wp2_with fail
      refine (size_any 41 _).mono ?_
      rintro e w9 ⟨rfl, hB9⟩
      rw [E0.out]
      have HC9 := Lib.hid (HC8.out.trans (hB9.mono HC8.out.size))
      clear hB9
      have hmk := mk132
      have hzz := own132
      generalize zeros132 = Z132 at *
      have HZZ := Lib.hid hzz
      clear hzz
      go_wp2_with fail
      have HC10 := Lib.hid (bal HC9.out (.cells Z132 5))
      have HZ := Lib.hid (Own.rd (HZZ.out w9))
      refine (same_any A _ 132 c 132 _ _ _ _ (Rdv.below HA17.out HC10.out) HZ.out (by intro x hx; rw [List.mem_replicate] at hx; rw [hx.2]; decide) (by intro x hx; rw [List.mem_replicate] at hx; rw [hx.2]; decide)).mono ?_
      rintro e w' ⟨rfl, rfl⟩
      rw [show decide (List.replicate 132 (0 : Int) = List.replicate 132 0) = true from by simp]
      go_wp2_with fail
      refine (same_any A3 M4 132 c3 132 132 _ _ _ (Rdv.below HA37.out HC10.out) (Rdv.below HW7.out HC10.out) (wantN_wf 21) (wantN_wf 21)).mono ?_
      rintro e w' ⟨rfl, rfl⟩
      rw [show decide (wantN 21 = wantN 21) = true from by simp]
      obtain ⟨l1, l2, l3, l4⟩ := lay1_ex
      obtain ⟨l5, l6, l7, l8⟩ := lay2_ex
      have L2 := Lib.hid l2; have L3 := Lib.hid l3; have L4 := Lib.hid l4; have L5 := Lib.hid l5; have L6 := Lib.hid l6; have L7 := Lib.hid l7; have L8 := Lib.hid l8
      have hs10 := Rdv.below HS17.out HC10.out
      have ix39 := fun W => Rdv.ixI hs10 el33 (j := 39) (by omega) .i64 39 rfl W
      have cl39 := Rd.cell hs10 (j := 39) (by omega)
      rw [l1] at cl39
      have sl1 : ∀ W, (Instr.sliceAt 33 (.slice S1 43 cs1) (some (.int .i64 40)) none none).run Try.prog W = .ok (.slice (cut S1 cs1 40) 3 (cs1 - 40)) W := fun W => Rdv.sll hs10 el33 .i64 (l := 40) (by omega) W
      clear l1 l2 l3 l4 l5 l6 l7 l8 hs10
      have HC11 := Lib.hid (bal HC10.out (.cells #[.int .i64 40, .int .i64 128, .int .i64 85] 3))
      go_wp2_with fail
      refine (ints_any (cut S1 cs1 40) _ 3 (cs1 - 40) 3 3 ((sysL 40 1).drop 40) [40, 128, 85] _ (rd_tail (Rdv.below HS17.out HC11.out)) (lit3 40 128 85 (by simp))).mono ?_
      rintro e w20 ⟨rfl, hQ⟩
      rw [show decide (((sysL 40 1).drop 40) = ([40, 128, 85] : List Int)) = true from by rw [L2.out]; rfl]
      have HC12 := Lib.hid (HC11.out.trans (hQ.below _))
      clear hQ
      have hp := Rdv.below HP17.out HC12.out
      have ixp := fun W => Rdv.ixI hp el33 (j := 0) (by omega) .i64 0 rfl W
      have clp := Rd.cell hp (j := 0) (by omega)
      rw [L3.out] at clp
      have slp : ∀ W, (Instr.sliceAt 33 (.slice P1 43 cp1) (some (.int .i64 40)) none none).run Try.prog W = .ok (.slice (cut P1 cp1 40) 3 (cp1 - 40)) W := fun W => Rdv.sll hp el33 .i64 (l := 40) (by omega) W
      clear hp
      have HC13 := Lib.hid (bal HC12.out (.cells #[.int .i64 84, .int .i64 41, .int .i64 129] 3))
      go_wp2_with fail
      refine (ints_any (cut P1 cp1 40) _ 3 (cp1 - 40) 3 3 ((parI 40 1).drop 40) [84, 41, 129] _ (rd_tail (Rdv.below HP17.out HC13.out)) (lit3 84 41 129 (by simp))).mono ?_
      rintro e w21 ⟨rfl, hQ⟩
      rw [show decide (((parI 40 1).drop 40) = ([84, 41, 129] : List Int)) = true from by rw [L4.out]; rfl]
      have HC14 := Lib.hid (HC13.out.trans (hQ.below _))
      clear hQ
      have hs2 := Rdv.below HS27.out HC14.out
      have sl2 : ∀ W, (Instr.sliceAt 33 (.slice S2 43 cs2) none (some (.int .i64 3)) none).run Try.prog W = .ok (.slice S2 3 cs2) W := fun W => Rdv.slh hs2 el33 .i64 (m := 3) (by have := Rdv.le hs2; omega) W
      have sl3 : ∀ W, (Instr.sliceAt 33 (.slice S2 43 cs2) (some (.int .i64 40)) none none).run Try.prog W = .ok (.slice (cut S2 cs2 40) 3 (cs2 - 40)) W := fun W => Rdv.sll hs2 el33 .i64 (l := 40) (by omega) W
      clear hs2
      have HC15 := Lib.hid (bal HC14.out (.cells #[.int .i64 0, .int .i64 13, .int .i64 6] 3))
      go_wp2_with fail
      refine (ints_any S2 _ 3 cs2 3 3 ((sysL 40 2).take 3) [0, 13, 6] _ (Rd.upto (Rdv.below HS27.out HC15.out) (m := 3) (by omega)) (lit3 0 13 6 (by simp))).mono ?_
      rintro e w22 ⟨rfl, hQ⟩
      rw [show decide (((sysL 40 2).take 3) = ([0, 13, 6] : List Int)) = true from by rw [L5.out]; rfl]
      have HC16 := Lib.hid (HC15.out.trans (hQ.below _))
      clear hQ
      have HC17 := Lib.hid (bal HC16.out (.cells #[.int .i64 42, .int .i64 130, .int .i64 87] 3))
      go_wp2_with fail
      refine (ints_any (cut S2 cs2 40) _ 3 (cs2 - 40) 3 3 ((sysL 40 2).drop 40) [42, 130, 87] _ (rd_tail (Rdv.below HS27.out HC17.out)) (lit3 42 130 87 (by simp))).mono ?_
      rintro e w23 ⟨rfl, hQ⟩
      rw [show decide (((sysL 40 2).drop 40) = ([42, 130, 87] : List Int)) = true from by rw [L6.out]; rfl]
      have HC18 := Lib.hid (HC17.out.trans (hQ.below _))
      clear hQ
      have hq := Rdv.below HP27.out HC18.out
      have ixq := fun W => Rdv.ixI hq el33 (j := 0) (by omega) .i64 0 rfl W
      have clq := Rd.cell hq (j := 0) (by omega)
      rw [L7.out] at clq
      have slq : ∀ W, (Instr.sliceAt 33 (.slice P2 43 cp2) (some (.int .i64 40)) none none).run Try.prog W = .ok (.slice (cut P2 cp2 40) 3 (cp2 - 40)) W := fun W => Rdv.sll hq el33 .i64 (l := 40) (by omega) W
      clear hq
      have HC19 := Lib.hid (bal HC18.out (.cells #[.int .i64 86, .int .i64 43, .int .i64 131] 3))
      go_wp2_with fail
      refine (ints_any (cut P2 cp2 40) _ 3 (cp2 - 40) 3 3 ((parI 40 2).drop 40) [86, 43, 131] _ (rd_tail (Rdv.below HP27.out HC19.out)) (lit3 86 43 131 (by simp))).mono ?_
      rintro e w24 ⟨rfl, hQ⟩
      rw [show decide (((parI 40 2).drop 40) = ([86, 43, 131] : List Int)) = true from by rw [L8.out]; rfl]
      have HC20 := Lib.hid (HC19.out.trans (hQ.below _))
      clear hQ
      go_wp2
      go_ret
      exact ⟨rfl, HB7.out.trans (HC20.out.mono HB7.out.size)⟩
end Go.Proofs.Ytkagdiejpcfggaa
