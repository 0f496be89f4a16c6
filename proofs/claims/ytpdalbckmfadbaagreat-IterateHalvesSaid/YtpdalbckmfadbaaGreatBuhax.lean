/-
  Bundle of the texts Im In Ra TuX Rb Rk CrM. Conditions: none.
-/
import Derived.Test.YtpdalbckmfadbaaGreatBuhaw
import Derived.Test.YtpdalbckmfadbaaGreatBuhas
import Derived.Test.YtpdalbckmfadbaaGreatBuhaj
import Derived.Laws.BitsAllLaws
import Derived.Laws.BitsLemmas
namespace Go.Proofs.YtpdalbckmfadbaaGreat
open Go.RowKit
set_option linter.unusedVariables false
attribute [local go_sem] Oper.semAt_some
theorem num_any (k : Int) (w : World) : Calls Tryz.prog 19 #[.int .i64 k] w fun e w' => e = .returned (.int .i64 k) ∧ w = w' := by
  go_enter Tryz.func19, Tryz.ntmps19
  go_wp2
  go_ret
  exact ⟨rfl, rfl⟩
theorem same_any (A B : Option Addr) (n c m d : Nat) (xs ys : List Int) (w : World) (hx : Rd .u8 w A n c xs) (hy : Rd .u8 w B m d ys) (h1 : ∀ x ∈ xs, 0 ≤ x ∧ x < 256) (h2 : ∀ x ∈ ys, 0 ≤ x ∧ x < 256) :
    Calls Tryz.prog 18 #[.slice A n c, .slice B m d] w fun e w' => e = .returned (.bool (decide (xs = ys))) ∧ w = w' := by
  have c1 := conv_rd hx
  have c2 := conv_rd hy
  rw [← strEq h1 h2]
  clear h1 h2 hx hy
  generalize strOfNums xs = s at *
  generalize strOfNums ys = t at *
  go_enter Tryz.func18, Tryz.ntmps18
  go_wp2
  go_ret
  exact ⟨rfl, rfl⟩
def FvI (w : World) (n : Nat) (Am : Option Addr) (i : Value) (wr : World) : Prop := ∃ (j : Nat) (cur : List Int), j ≤ n ∧ i = .int .i64 (j : Int) ∧ Own .i64 3 wr w.heap.size Am n n cur ∧ (∀ q, q < j → gi cur q = 5) ∧ Below w.heap.size w wr
set_option maxRecDepth 100000 in
theorem fives_any (n : Nat) (w : World) (hn : n ≤ 100000) : Calls Tryz.prog 52 #[.int .i64 (n : Int)] w fun e w' => ∃ A', e = .returned (.slice A' n n) ∧ Own .i64 3 w' w.heap.size A' n n (List.replicate n 5) ∧ Below w.heap.size w w' := by
  go_enter Tryz.func52, Tryz.ntmps52
  go_wp2_with (at_make; refine list_of rfl fun K hK => wp_mk (n := n) _ _ 34 rfl el22 rfl rfl (by omega) (by unfold maxLen; omega) ?_
               intro Am w3 hO3 hB3 hA
               have HO3 := Lib.hid hO3
               have HB3 := Lib.hid hB3
               clear hO3 hB3 hA
               refine hK _ _ ?_
               clear hK K)
  go_loopw [4] (fun i wr => FvI w n Am i wr) (fun i _ => n - (intOf i).toNat)
  case atStart => exact ⟨0, List.replicate n 0, Nat.zero_le _, rfl, by have := HO3.out; unfold Own; simpa using this, fun q hq => by omega, HB3.out⟩
  case round =>
    obtain ⟨j, cur, hj, rfl, hO, hsame, hB⟩ := hrel
    have HB := Lib.hid hB
    have HS := Lib.hid hsame
    by_cases hlt : j < n
    · have hcu := Rd.cell (Own.rd hO) hlt
      have hfu := Ownv.frozen hO (by omega) j
      have hiu := fun W => Rdv.ix (Own.rd hO) el22 hlt .i64 W
      have HST := Lib.hid (Own.set_ hO hlt 5)
      have hbA := (Ownv.blk_ge hO (by omega)).1
      have HB2 := Lib.hid (hB.grown (Own.set_ hO hlt 5).2 hB.size (fun k e => by cases e; exact hbA))
      have hcl := Rd.len (Own.rd hO)
      clear hO hB hsame
      go_wp2
      go_roundw
      case rel => exact ⟨j + 1, cur.set j 5, by omega, by go_num, HST.out.1, lt_succ_cases (fun q hq => by rw [gi_set' _ _ _ _ (by omega), if_neg (by omega)]; exact HS.out q hq) (by rw [gi_set' _ _ _ _ (by omega), if_pos rfl]), HB2.out⟩
      case measure => simp [intOf]; omega
    · obtain rfl : j = n := by omega
      have hle := Rd.len (Own.rd hO)
      have HLE := Lib.hid (show cur = List.replicate j 5 from ext_gi (by simp [hle]) fun q hq => by
        rw [hsame q (by omega), gi_eq _ q (by rw [List.length_replicate]; omega), List.getElem_replicate])
      have HO9 := Lib.hid hO
      clear hO hsame hle hB
      go_wp2
      go_ret
      exact ⟨Am, rfl, by rw [← HLE.out]; exact HO9.out, HB.out⟩
/-! ### the examples -/
def v5 : List Int := List.replicate 132 5
def y5 : List Int := (v5.set 3 (-5)).set 60 (-5)
def u5 : List Int := y5.set 0 128
def z40 : List Int := List.replicate 40 0
theorem wrd_z : Tu.wrd (List.replicate 40 false) = List.replicate 132 false := by decide +kernel
theorem sz0 : 40 = Tu.szK 0 := by decide
theorem v5_sgn : Sgn v5 40 (List.replicate 40 false) (fun _ => 5) := by
  intro q hq
  rw [wrd_z]
  have hq : q < 132 := by omega
  refine ⟨?_, by show (1 : Int) ≤ 5; omega, by show (5 : Int) ≤ 127; omega⟩
  unfold v5 Tu.gB gi
  rw [List.getD_eq_getElem?_getD, List.getD_eq_getElem?_getD, List.getElem?_replicate, List.getElem?_replicate, if_pos hq, if_pos hq]
  rfl
theorem dec_v5 : decN v5 40 0 = z40 ∧ decN v5 40 1 = z40 := by
  have h := clean_two sz0 (x := List.replicate 40 false) (List.length_replicate ..) v5_sgn
  have e : (List.replicate 40 false).map ib = z40 := by decide
  rw [e] at h
  exact h
theorem dec_w5 : decN y5 40 0 = z40 := by
  have h := hold_one sz0 (by omega) (M := 5) (x := List.replicate 40 false) (vs := y5) ⟨by omega, by omega⟩ (List.length_replicate ..) 3 60 (fun q hq => by
    rw [wrd_z]
    have hq : q < 132 := by omega
    have : ∀ q, q < 132 → gi y5 q = sgM 5 3 60 q * (1 - 2 * (bq (Tu.gB (List.replicate 132 false) q) : Int)) := by decide +kernel
    exact this q hq)
  rw [h]; decide
theorem chk_z : Cr.chkErr 1 z40 = 0 ∧ Cr.chkErr 3 z40 = 0 := by decide +kernel
theorem wr_v : wrE v5 1 8 = 0 ∧ wrE v5 0 8 = 0 ∧ wrE v5 0 1 = 0 ∧ wrE v5 5 8 = 2 ∧ wrE y5 3 1 = 0 ∧ wrE (List.replicate 131 5) 0 8 = 2 ∧ wrE u5 0 8 = 6 := by decide +kernel
theorem kv5 : kOf v5 = 40 ∧ kOf y5 = 40 := by decide +kernel
theorem fd_of {vs : List Int} {kind : Int} {m h k : Nat} (hk : kOf vs = k) (hh : h < m) (h1 : okN kind vs k h = true) (h2 : ∀ q, q < h → okN kind vs k q = false) : fdN vs kind (m : Int) = some h := by
  unfold fdN
  rw [Int.toNat_natCast, List.find?_range_eq_some, hk]
  exact ⟨h1, List.mem_range.2 hh, fun q hq => by rw [h2 q hq]; rfl⟩
theorem ok0_0 (vs : List Int) (k : Nat) : okN 0 vs k 0 = false := by unfold okN; rw [if_pos rfl]; simp
theorem it_of {vs : List Int} {kind most : Int} {h k : Nat} (hk : kOf vs = k) (hE : wrE vs kind most = 0) (hf : fdN vs kind most = some h) : itE vs kind most = 0 ∧ itH vs kind most = ((h + 1 : Nat) : Int) ∧ itD vs kind most = decN vs k h := by
  unfold itE itH itD
  rw [if_pos hE, if_pos hE, if_pos hE, hf, hk]
  exact ⟨rfl, rfl, rfl⟩
theorem ex1 : itE v5 1 8 = 0 ∧ itH v5 1 8 = 1 ∧ itD v5 1 8 = z40 := by
  have hf : fdN v5 1 ((8 : Nat) : Int) = some 0 := fd_of kv5.1 (by omega) (by unfold okN; rw [if_neg (by decide), dec_v5.1, chk_z.1]; rfl) (fun q hq => by omega)
  have h := it_of kv5.1 wr_v.1 hf
  rw [dec_v5.1] at h
  exact h
theorem ok0_1 : okN 0 v5 40 1 = true := by
  unfold okN
  rw [if_pos rfl, show befN v5 40 1 = decN v5 40 0 from rfl, dec_v5.1, dec_v5.2]
  simp
theorem ex2 : itE v5 0 8 = 0 ∧ itH v5 0 8 = 2 ∧ itD v5 0 8 = z40 := by
  have hf : fdN v5 0 ((8 : Nat) : Int) = some 1 := fd_of kv5.1 (by omega) ok0_1 (fun q hq => by rw [show q = 0 by omega]; exact ok0_0 _ _)
  have h := it_of kv5.1 wr_v.2.1 hf
  rw [dec_v5.2] at h
  exact h
theorem ex3 : itE v5 0 1 = 11 := by
  have hf : fdN v5 0 ((1 : Nat) : Int) = none := by
    unfold fdN
    rw [Int.toNat_natCast, List.find?_eq_none]
    intro q hq
    obtain rfl : q = 0 := by have := List.mem_range.1 hq; omega
    rw [ok0_0]; decide
  unfold itE
  rw [if_pos wr_v.2.2.1]
  have hf : fdN v5 0 1 = none := hf
  rw [hf]
theorem ex4 : itE y5 3 1 = 0 ∧ itH y5 3 1 = 1 ∧ itD y5 3 1 = z40 := by
  have hf : fdN y5 3 ((1 : Nat) : Int) = some 0 := fd_of kv5.2 (by omega) (by unfold okN; rw [if_neg (by decide), dec_w5, chk_z.2]; rfl) (fun q hq => by omega)
  have h := it_of kv5.2 wr_v.2.2.2.2.1 hf
  rw [dec_w5] at h
  exact h
theorem itE_bad {vs : List Int} {kind most E : Int} (h : wrE vs kind most = E) (h0 : E ≠ 0) : itE vs kind most = E := by
  unfold itE; rw [if_neg (by rw [h]; exact h0), h]
end Go.Proofs.YtpdalbckmfadbaaGreat

namespace Go.Proofs.YtpdalbckmfadbaaGreat
open Go.RowKit
set_option linter.unusedVariables false
attribute [local go_sem] Oper.semAt_some
theorem rd_lt {k : IntKind} {w : World} {A : Option Addr} {n c : Nat} {xs : List Int} (h : Rd k w A n c xs) (hn : 0 < n) : blk A < w.heap.size := by
  have hle := Rdv.le h
  obtain ⟨b, o, rfl, hb⟩ := Rdv.ptr h (by omega)
  exact hb
theorem z40_wf : ∀ x ∈ z40, 0 ≤ x ∧ x < 256 := by decide
theorem f132 (W : World) : Calls Tryz.prog 52 #[.int .i64 132] W fun e w' => ∃ A', e = .returned (.slice A' 132 132) ∧ Own .i64 3 w' W.heap.size A' 132 132 v5 ∧ Below W.heap.size W w' := fives_any 132 W (by omega)
theorem f131 (W : World) : Calls Tryz.prog 52 #[.int .i64 131] W fun e w' => ∃ A', e = .returned (.slice A' 131 131) ∧ Own .i64 3 w' W.heap.size A' 131 131 (List.replicate 131 5) ∧ Below W.heap.size W w' := fives_any 131 W (by omega)
set_option maxRecDepth 100000 in
set_option maxHeartbeats 4000000 in
theorem works_any (w : World) : Calls Tryz.prog 16 #[] w fun e w' => e = .returned (.bool true) ∧ Below w.heap.size w w' := by
  go_enter Tryz.func16, Tryz.ntmps16
  go_wp2_with (at_make; refine list_of rfl fun K hK => wp_mk (n := 40) _ _ 22 rfl el26 rfl rfl (by omega) (by unfold maxLen; omega) ?_
               intro Az w1 hO hB hA
               have HZ1 : Hid (Rd .u8 w1 Az 40 40 z40) := Lib.hid (by have := hO.rd; unfold Rd; simpa [z40] using this)
               have HB1 := Lib.hid hB
               clear hO hB hA
               refine hK _ _ ?_
               clear hK K)
  refine (f132 w1).mono ?_
  rintro e w2 ⟨Av, rfl, hV, hB⟩
  have HV2 := Lib.hid (Own.rd hV)
  have HZ2 := Lib.hid (Rdv.below HZ1.out hB)
  have HB2 := Lib.hid (HB1.out.trans (hB.mono HB1.out.size))
  clear hV hB
  go_wp2_with fail
  refine (dec_any Av 132 132 v5 1 8 w2 HV2.out (by omega)).mono ?_
  rintro e w3 ⟨Ra, na, ca, rfl, h, f, hB⟩
  rw [ex1.2.2] at h
  rw [ex1.1, ex1.2.1]
  have HA3 := Lib.hid h
  have HZ3 := Lib.hid (Rdv.below HZ2.out hB)
  have HV3 := Lib.hid (Rdv.below HV2.out hB)
  have HB3 := Lib.hid (HB2.out.trans (hB.mono HB2.out.size))
  clear h f hB
  go_wp2_with fail
  refine (dec_any Av 132 132 v5 0 8 w3 HV3.out (by omega)).mono ?_
  rintro e w4 ⟨Rb, nb, cb, rfl, h, f, hB⟩
  rw [ex2.2.2] at h
  rw [ex2.1, ex2.2.1]
  have HC4 := Lib.hid h
  have HA4 := Lib.hid (Rdv.below HA3.out hB)
  have HZ4 := Lib.hid (Rdv.below HZ3.out hB)
  have HV4 := Lib.hid (Rdv.below HV3.out hB)
  have HB4 := Lib.hid (HB3.out.trans (hB.mono HB3.out.size))
  clear h f hB
  go_wp2_with fail
  refine (dec_any Av 132 132 v5 0 1 w4 HV4.out (by omega)).mono ?_
  rintro e w5 ⟨Rc, nc, cc, rfl, h, f, hB⟩
  rw [ex3]
  have HC5 := Lib.hid (Rdv.below HC4.out hB)
  have HA5 := Lib.hid (Rdv.below HA4.out hB)
  have HZ5 := Lib.hid (Rdv.below HZ4.out hB)
  have HV5 := Lib.hid (Rdv.below HV4.out hB)
  have HB5 := Lib.hid (HB4.out.trans (hB.mono HB4.out.size))
  clear h f hB
  generalize itH v5 0 1 = x3
  go_wp2_with fail
  refine (f132 w5).mono ?_
  rintro e w6 ⟨Aw, rfl, hW, hB⟩
  have lC := rd_lt HC5.out (by rw [← Rd.len HC5.out]; decide)
  have lA := rd_lt HA5.out (by rw [← Rd.len HA5.out]; decide)
  have lZ := rd_lt HZ5.out (by omega)
  have lV := rd_lt HV5.out (by omega)
  have lW := (Ownv.blk_ge hW (by omega)).1
  have HC6 := Lib.hid (Rdv.below HC5.out hB)
  have HA6 := Lib.hid (Rdv.below HA5.out hB)
  have HZ6 := Lib.hid (Rdv.below HZ5.out hB)
  have HV6 := Lib.hid (Rdv.below HV5.out hB)
  have HB6 := Lib.hid (HB5.out.trans (hB.mono HB5.out.size))
  have s1 := Own.set_ hW (show 3 < 132 by omega) (-5)
  have s2 := Own.set_ s1.1 (show 60 < 132 by omega) (-5)
  have c1 := Rd.cell (Own.rd hW) (show 3 < 132 by omega)
  have c2 := Rd.cell (Own.rd s1.1) (show 60 < 132 by omega)
  have f1 := Ownv.frozen hW (by omega) 3
  have f2 := Ownv.frozen s1.1 (by omega) 60
  have i1 := fun W => Rdv.ixI (Own.rd hW) el22 (j := 3) (by omega) .i64 3 rfl W
  have i2 := fun W => Rdv.ixI (Own.rd hW) el22 (j := 60) (by omega) .i64 60 rfl W
  have kp : ∀ {k : IntKind} {X : Option Addr} {n c : Nat} {xs : List Int}, Rd k w6 X n c xs → blk X < w5.heap.size → Rd k ((w6.setCell (adr Aw 3) (.int .i64 (-5))).setCell (adr Aw 60) (.int .i64 (-5))) X n c xs := fun h1 h2 => Rdv.grown (Rdv.grown h1 s1.2 (fun _ e => by have := Option.some.inj e; omega)) s2.2 (fun _ e => by have := Option.some.inj e; omega)
  have HC7 := Lib.hid (kp HC6.out lC)
  have HA7 := Lib.hid (kp HA6.out lA)
  have HZ7 := Lib.hid (kp HZ6.out lZ)
  have HV7 := Lib.hid (kp HV6.out lV)
  have HNC : Hid (blk Rb ≠ blk Aw) := Lib.hid (by omega)
  have HNA : Hid (blk Ra ≠ blk Aw) := Lib.hid (by omega)
  have HNZ : Hid (blk Az ≠ blk Aw) := Lib.hid (by omega)
  have lW2 : w.heap.size ≤ blk Aw := Nat.le_trans HB5.out.size lW
  have HB7 : Hid (Below w.heap.size w ((w6.setCell (adr Aw 3) (.int .i64 (-5))).setCell (adr Aw 60) (.int .i64 (-5)))) := Lib.hid ((HB6.out.grown s1.2 HB6.out.size (fun j e => by cases e; exact lW2)).grown s2.2 (HB6.out.grown s1.2 HB6.out.size (fun j e => by cases e; exact lW2)).size (fun j e => by cases e; exact lW2))
  have HW7 := Lib.hid s2.1
  have HLW := Lib.hid lW2
  clear kp lC lA lZ lV lW lW2 s1 s2 hB hW HC6 HA6 HZ6 HV6 HB6
  go_wp2_with fail
  refine (dec_any Aw 132 132 y5 3 1 _ (Own.rd HW7.out) (by omega)).mono ?_
  rintro e w8 ⟨Rd_, nd, cd, rfl, h, f, hB⟩
  rw [ex4.2.2] at h
  rw [ex4.1, ex4.2.1]
  have HD8 := Lib.hid h
  have lD : blk Rd_ ≠ blk Aw := by
    have h1 := rd_lt (Own.rd HW7.out) (by omega)
    have h2 : Rd_ ≠ none := by
      rintro rfl
      have h3 := Rdv.nil h rfl
      have h4 := Rdv.le h
      have h5 := Rd.len h
      have h6 : z40.length = 40 := by decide
      omega
    have h3 := f h2
    omega
  have HC8 := Lib.hid (Rdv.below HC7.out hB)
  have HA8 := Lib.hid (Rdv.below HA7.out hB)
  have HZ8 := Lib.hid (Rdv.below HZ7.out hB)
  have HV8 := Lib.hid (Rdv.below HV7.out hB)
  have HW8 := Lib.hid (Ownv.below HW7.out hB)
  have HB8 := Lib.hid (HB7.out.trans (hB.mono HB7.out.size))
  have HLD := Lib.hid lD
  clear h f hB lD
  go_wp2_with fail
  refine (f131 w8).mono ?_
  rintro e w9 ⟨Ax, rfl, hX, hB⟩
  have HX9 := Lib.hid (Own.rd hX)
  have HD9 := Lib.hid (Rdv.below HD8.out hB)
  have HC9 := Lib.hid (Rdv.below HC8.out hB)
  have HA9 := Lib.hid (Rdv.below HA8.out hB)
  have HZ9 := Lib.hid (Rdv.below HZ8.out hB)
  have HV9 := Lib.hid (Rdv.below HV8.out hB)
  have HW9 := Lib.hid (Ownv.below HW8.out hB)
  have HB9 := Lib.hid (HB8.out.trans (hB.mono HB8.out.size))
  clear hX hB
  go_wp2_with fail
  refine (dec_any Ax 131 131 (List.replicate 131 5) 0 8 w9 HX9.out (by omega)).mono ?_
  rintro e w10 ⟨Re, ne, ce, rfl, h, f, hB⟩
  rw [itE_bad wr_v.2.2.2.2.2.1 (by decide)]
  have HD10 := Lib.hid (Rdv.below HD9.out hB)
  have HC10 := Lib.hid (Rdv.below HC9.out hB)
  have HA10 := Lib.hid (Rdv.below HA9.out hB)
  have HZ10 := Lib.hid (Rdv.below HZ9.out hB)
  have HV10 := Lib.hid (Rdv.below HV9.out hB)
  have HW10 := Lib.hid (Ownv.below HW9.out hB)
  have HB10 := Lib.hid (HB9.out.trans (hB.mono HB9.out.size))
  clear h f hB
  generalize itH (List.replicate 131 5) 0 8 = x5
  go_wp2_with fail
  refine (dec_any Av 132 132 v5 5 8 w10 HV10.out (by omega)).mono ?_
  rintro e w11 ⟨Rf, nf, cf, rfl, h, f, hB⟩
  rw [itE_bad wr_v.2.2.2.1 (by decide)]
  have HD11 := Rdv.below HD10.out hB
  have HC11 := Rdv.below HC10.out hB
  have HA11 := Rdv.below HA10.out hB
  have HZ11 := Rdv.below HZ10.out hB
  have hW11 := Ownv.below HW10.out hB
  have HB11 := Lib.hid (HB10.out.trans (hB.mono HB10.out.size))
  clear h f hB
  generalize itH v5 5 8 = x6
  have s3 := Own.set_ hW11 (show 0 < 132 by omega) 128
  have c3 := Rd.cell (Own.rd hW11) (show 0 < 132 by omega)
  have f3 := Ownv.frozen hW11 (by omega) 0
  have i3 := fun W => Rdv.ixI (Own.rd hW11) el22 (j := 0) (by omega) .i64 0 rfl W
  have kp : ∀ {k : IntKind} {X : Option Addr} {n c : Nat} {xs : List Int}, Rd k w11 X n c xs → blk X ≠ blk Aw → Rd k (w11.setCell (adr Aw 0) (.int .i64 128)) X n c xs := fun h1 h2 => Rdv.grown h1 s3.2 (fun _ e => h2 (Option.some.inj e))
  have HC12 := Lib.hid (kp HC11 HNC.out)
  have HA12 := Lib.hid (kp HA11 HNA.out)
  have HZ12 := Lib.hid (kp HZ11 HNZ.out)
  have HD12 := Lib.hid (kp HD11 HLD.out)
  have HW12 := Lib.hid s3.1
  have HB12 : Hid (Below w.heap.size w (w11.setCell (adr Aw 0) (.int .i64 128))) := Lib.hid (HB11.out.grown s3.2 HB11.out.size (fun j e => by cases e; exact HLW.out))
  clear kp s3 hW11 HD11 HC11 HA11 HZ11
  go_wp2_with fail
  refine (dec_any Aw 132 132 u5 0 8 _ (Own.rd HW12.out) (by omega)).mono ?_
  rintro e w13 ⟨Rg, ng, cg, rfl, h, f, hB⟩
  rw [itE_bad wr_v.2.2.2.2.2.2 (by decide)]
  have HD13 := Lib.hid (Rdv.below HD12.out hB)
  have HC13 := Lib.hid (Rdv.below HC12.out hB)
  have HA13 := Lib.hid (Rdv.below HA12.out hB)
  have HZ13 := Lib.hid (Rdv.below HZ12.out hB)
  have HB13 := Lib.hid (HB12.out.trans (hB.mono HB12.out.size))
  clear h f hB
  generalize itH u5 0 8 = x7
  go_wp2_with (first
    | (go_at_call 19; refine (num_any _ _).mono ?_; rintro e wx ⟨rfl, rfl⟩)
    | (go_at_call 18; first
        | (refine (same_any Ra Az na ca 40 40 z40 z40 w13 HA13.out HZ13.out z40_wf z40_wf).mono ?_; rintro e wx ⟨rfl, rfl⟩; rw [decide_eq_true rfl])
        | (refine (same_any Rb Az nb cb 40 40 z40 z40 w13 HC13.out HZ13.out z40_wf z40_wf).mono ?_; rintro e wx ⟨rfl, rfl⟩; rw [decide_eq_true rfl])
        | (refine (same_any Rd_ Az nd cd 40 40 z40 z40 w13 HD13.out HZ13.out z40_wf z40_wf).mono ?_; rintro e wx ⟨rfl, rfl⟩; rw [decide_eq_true rfl])))
  go_ret
  exact ⟨rfl, HB13.out⟩
end Go.Proofs.YtpdalbckmfadbaaGreat

namespace Go.Proofs.YtpdalbckmfadbaaGreat
open Go.RowKit
set_option linter.unusedVariables false
attribute [local go_sem] Oper.semAt_some
def RpI (w : World) (xs ps : List Int) (m : Nat) (b i : Value) (wr : World) : Prop := ∃ (j : Nat) (R : Option Addr) (c : Nat), j ≤ m ∧ i = .int .i64 (j : Int) ∧ b = .slice R j c ∧ Own .i64 3 wr w.heap.size R j c (pk xs (ps.take j)) ∧ Below w.heap.size w wr
theorem pk_succ (xs ps : List Int) (j : Nat) (h : j < ps.length) : pk xs (ps.take (j + 1)) = pk xs (ps.take j) ++ [gi xs (gi ps j).toNat] := by
  unfold pk
  rw [List.take_succ_eq_append_getElem h, List.map_append]
  simp [gi, List.getD, h]
set_option maxRecDepth 100000 in
theorem rpicked_any (A : Option Addr) (n c : Nat) (xs : List Int) (B : Option Addr) (m d : Nat) (ps : List Int) (w : World) (hx : Rd .i64 w A n c xs) (hy : Rd .i64 w B m d ps) (hp : ∀ j, j < m → ∃ p : Nat, gi ps j = (p : Int) ∧ p < n) (hm : m ≤ 100000) :
    Calls Tryz.prog 57 #[.slice A n c, .slice B m d] w fun e w' => ∃ R rc, e = .returned (.slice R m rc) ∧ Own .i64 3 w' w.heap.size R m rc (pk xs ps) ∧ Below w.heap.size w w' := by
  have HX := Lib.hid hx
  have HY := Lib.hid hy
  have HL := Lib.hid (Rd.len hy)
  have HP := Lib.hid hp
  clear hx hy hp
  go_enter Tryz.func57, Tryz.ntmps57
  go_wp2_with fail
  go_loopw [5, 6] (fun b i wr => RpI w xs ps m b i wr) (fun _ i _ => m - (intOf i).toNat)
  case atStart => exact ⟨0, none, 0, Nat.zero_le _, rfl, rfl, Own.nilv _ _ _ _, Below.refl _ _⟩
  case round =>
    obtain ⟨j, R, rc, hj, rfl, rfl, hO, hB⟩ := hrel
    have HO := Lib.hid hO
    have HB := Lib.hid hB
    by_cases hlt : j < m
    · obtain ⟨p, hpe, hpn⟩ := HP.out j hlt
      have hyr := Rdv.below HY.out hB
      have hxr := Rdv.below HX.out hB
      have hcy := Rd.cell hyr hlt
      rw [hpe] at hcy
      have hcx := Rd.cell hxr hpn
      have hiy := fun W => Rdv.ix hyr el22 hlt .i64 W
      have hix := fun W => Rdv.ix hxr el22 hpn .i64 W
      have HS : Hid (pk xs (ps.take (j + 1)) = pk xs (ps.take j) ++ [gi xs p]) := Lib.hid (by rw [pk_succ _ _ _ (by rw [HL.out]; exact hlt), hpe]; rfl)
      obtain ⟨v, hv⟩ : ∃ v, v = gi xs p := ⟨_, rfl⟩
      rw [← hv] at hcx HS
      clear hO hB hyr hxr hv hpe
      go_wp2_with (at_builtin
                   refine list_of rfl fun K hK => wp_app1 (base := w.heap.size) _ _ 34 rfl el22 rfl (.int .i64 v) rfl rfl HO.out (by omega) (by omega) HB.out.size ?_
                   intro A4 c4 w4 h1 h2
                   have HO4 := Lib.hid h1
                   have HG4 := Lib.hid h2
                   clear h1 h2
                   refine hK _ _ ?_
                   clear hK K)
      go_roundw
      case rel => exact ⟨j + 1, A4, c4, by omega, by go_num, rfl, Own.of_eq HO4.out rfl (by rw [HS.out, List.map_append]; rfl), HB.out.grown HG4.out HB.out.size (fun k hk => Ownv.ob' HO.out hk)⟩
      case measure => simp [intOf]; omega
    · obtain rfl : m = j := by omega
      clear hO hB
      go_wp2
      go_ret
      exact ⟨R, rc, rfl, by have h := HO.out; rw [List.take_of_length_le (by rw [HL.out]; omega)] at h; exact h, HB.out⟩
end Go.Proofs.YtpdalbckmfadbaaGreat

namespace Go.Proofs.YtpdalbckmfadbaaGreat.Tu
open Go.RowKit
set_option linter.unusedVariables false
def stS (s : St3) : Int := stI s.1 s.2.1 s.2.2
set_option maxRecDepth 100000 in
theorem rstep_any (s : St3) (x : Bool) (w : World) : Calls Tryz.prog 142 #[.int .i64 (stS s), .int .i64 (ib x)] w fun e w' => e = .returned (.tuple #[.int .i64 (stS (stp s x)), .int .i64 (ib (par s x))]) ∧ w = w' := by
  obtain ⟨a, b, c⟩ := s
  cases a <;> cases b <;> cases c <;> cases x <;> (
    simp only [stS, stp, par, stI, ib, if_true, if_false, Bool.false_eq_true]
    go_enter Tryz.func142, Tryz.ntmps142
    go_wp2
    go_ret2
    exact ⟨rfl, rfl⟩)
theorem rsize_any (k : Int) (w : World) : Calls Tryz.prog 53 #[.int .i64 k] w fun e w' => e = .returned (.int .i64 (if validK k = true then 3 * (k + 4) else 0)) ∧ Below w.heap.size w w' := by
  have ho := fun W => Lib.hid (rorder_any k W)
  by_cases hv : validK k = true
  · obtain ⟨h0, h1⟩ := valid_bd hv
    have e1 : permE k = 0 := by unfold permE; rw [if_pos hv]
    rw [e1] at ho
    rw [if_pos hv]
    clear e1 hv
    go_enter Tryz.func53, Tryz.ntmps53
    go_wp2_with (go_at_call 54; refine (ho _).out.mono ?_; rintro e w1 ⟨A, n, c, rfl, hO, hB⟩)
    go_ret
    exact ⟨ret_int rfl, hB⟩
  · have e1 : permE k = 2 := by unfold permE; rw [if_neg hv]
    rw [e1] at ho
    rw [if_neg hv]
    clear e1 hv
    go_enter Tryz.func53, Tryz.ntmps53
    go_wp2_with (go_at_call 54; refine (ho _).out.mono ?_; rintro e w1 ⟨A, n, c, rfl, hO, hB⟩)
    go_ret
    exact ⟨ret_int rfl, hB⟩
end Go.Proofs.YtpdalbckmfadbaaGreat.Tu

namespace Go.Proofs.YtpdalbckmfadbaaGreat
open Go.RowKit
set_option linter.unusedVariables false
attribute [local go_sem] Oper.semAt_some
def RwI (w : World) (vs : List Int) (n : Nat) (i : Value) (wr : World) : Prop := ∃ j : Nat, j ≤ n ∧ i = .int .i64 (j : Int) ∧ (∀ q, q < j → -127 ≤ gi vs q ∧ gi vs q ≤ 127) ∧ Below w.heap.size w wr
set_option maxRecDepth 100000 in
set_option maxHeartbeats 1000000 in
theorem rwrong_any (A : Option Addr) (n c : Nat) (vs : List Int) (kind most : Int) (w : World) (h : Rd .i64 w A n c vs) (hn : n ≤ 600) :
    Calls Tryz.prog 20 #[.slice A n c, .int .i64 kind, .int .i64 most] w fun e w' => e = .returned (.int .i64 (wrE vs kind most)) ∧ Below w.heap.size w w' := by
  have hl := Rd.len h
  have HR := Lib.hid h
  have HSZ := Lib.hid (fun W => Tu.rsize_any ((n : Int) / 3 - 4) W)
  obtain ⟨r, hr⟩ : ∃ r : Nat, r = n % 3 := ⟨_, rfl⟩
  have a1 : (n : Int).tmod 3 = (r : Int) := by rw [Int.tmod_eq_emod_of_nonneg (by omega), hr]; omega
  have a2 : (n : Int) % 3 = (r : Int) := by rw [hr]; omega
  have e1 : (n : Int).tdiv 3 = (n : Int) / 3 := Int.tdiv_eq_ediv_of_nonneg (by omega)
  have e3 : IntKind.i64.wrap ((n : Int) / 3) = (n : Int) / 3 := IntWalk.i64_in _ (by omega)
  have e4 : IntKind.i64.wrap ((n : Int) / 3 - 4) = (n : Int) / 3 - 4 := IntWalk.i64_in _ (by omega)
  obtain ⟨s, hs⟩ : ∃ s : Int, s = (if Tu.validK ((n : Int) / 3 - 4) = true then 3 * ((n : Int) / 3 - 4 + 4) else 0) := ⟨_, rfl⟩
  rw [← hs] at HSZ
  have hsv : Tu.validK ((n : Int) / 3 - 4) = true → s ≠ 0 := fun h => by
    have := Tu.valid_bd h
    rw [hs, if_pos h]; omega
  have hsf : Tu.validK ((n : Int) / 3 - 4) = false → s = 0 := fun h => by rw [hs, if_neg (by rw [h]; decide)]
  have hW : wrE vs kind most = if r ≠ 0 ∨ Tu.validK ((n : Int) / 3 - 4) = false ∨ kind < 0 ∨ 4 < kind ∨ most < 1 ∨ 64 < most then 2 else if SoftB vs = true then 0 else 6 := by
    unfold wrE; rw [hl, hr]
  generalize Tu.validK ((n : Int) / 3 - 4) = vb at *
  rw [hW]
  clear hW hs h hr
  by_cases hc : r ≠ 0 ∨ vb = false ∨ kind < 0 ∨ 4 < kind ∨ most < 1 ∨ 64 < most
  · rw [if_pos hc]
    clear hl
    rcases (by
      by_cases c1 : r ≠ 0
      · exact .inl c1
      · have c1 : r = 0 := by omega
        by_cases c2 : vb = false
        · exact .inr (.inl ⟨c1, c2⟩)
        · have c2 : vb = true := by simpa using c2
          by_cases c3 : kind < 0
          · exact .inr (.inr (.inl ⟨c1, c2, c3⟩))
          · by_cases c4 : 4 < kind
            · exact .inr (.inr (.inr (.inl ⟨c1, c2, by omega, c4⟩)))
            · by_cases c5 : most < 1
              · exact .inr (.inr (.inr (.inr (.inl ⟨c1, c2, by omega, by omega, c5⟩))))
              · refine .inr (.inr (.inr (.inr (.inr ⟨c1, c2, by omega, by omega, by omega, ?_⟩))))
                rcases hc with h | h | h | h | h | h
                · omega
                · rw [h] at c2; cases c2
                · omega
                · omega
                · omega
                · exact h : r ≠ 0 ∨ (r = 0 ∧ vb = false) ∨ (r = 0 ∧ vb = true ∧ kind < 0) ∨ (r = 0 ∧ vb = true ∧ 0 ≤ kind ∧ 4 < kind) ∨ (r = 0 ∧ vb = true ∧ 0 ≤ kind ∧ kind ≤ 4 ∧ most < 1) ∨ (r = 0 ∧ vb = true ∧ 0 ≤ kind ∧ kind ≤ 4 ∧ 1 ≤ most ∧ 64 < most)) with h1 | ⟨h1, h2⟩ | ⟨h1, h2, h3⟩ | ⟨h1, h2, h3, h4⟩ | ⟨h1, h2, h3, h4, h5⟩ | ⟨h1, h2, h3, h4, h5, h6⟩ <;> clear hc
    case' inl => have q1 : ((r : Int) != 0) = true := bne_t (by omega)
    case' inr.inl => (have q1 : ((r : Int) != 0) = false := bne_f (by omega)); (have q2 : s = 0 := hsf h2)
    case' inr.inr.inl => (have q1 : ((r : Int) != 0) = false := bne_f (by omega)); (have q2 : (s == 0) = false := by (have := hsv h2); simpa using this)
    case' inr.inr.inr.inl => (have q1 : ((r : Int) != 0) = false := bne_f (by omega)); (have q2 : (s == 0) = false := by (have := hsv h2); simpa using this)
    case' inr.inr.inr.inr.inl => (have q1 : ((r : Int) != 0) = false := bne_f (by omega)); (have q2 : (s == 0) = false := by (have := hsv h2); simpa using this)
    case' inr.inr.inr.inr.inr => (have q1 : ((r : Int) != 0) = false := bne_f (by omega)); (have q2 : (s == 0) = false := by (have := hsv h2); simpa using this)
    all_goals
      clear h1 hsv hsf
      go_enter Tryz.func20, Tryz.ntmps20
      go_wp2_with (go_at_call 53; refine (HSZ.out _).mono ?_; rintro e w1 ⟨rfl, hB⟩)
      go_ret
      exact ⟨rfl, by first | exact Below.refl _ _ | assumption⟩
  · rw [if_neg hc]
    have hvb : vb = true := by
      cases vb
      · exact absurd (.inr (.inl rfl)) hc
      · rfl
    have q1 : ((r : Int) != 0) = false := bne_f (by omega)
    have q2 : (s == 0) = false := by have := hsv hvb; simpa using this
    have b1 : decide (kind < 0) = false := by simp; omega
    have b2 : decide (kind > 4) = false := by simp; omega
    have b3 : decide (most < 1) = false := by simp; omega
    have b4 : decide (most > 64) = false := by simp; omega
    obtain ⟨E, hE⟩ : ∃ E : Int, E = if SoftB vs = true then 0 else 6 := ⟨_, rfl⟩
    rw [← hE]
    have HE0 : Hid (SoftB vs = true → E = 0) := Lib.hid (fun h => by rw [hE, if_pos h])
    have HE6 : Hid (SoftB vs = false → E = 6) := Lib.hid (fun h => by rw [hE, if_neg (by rw [h]; decide)])
    have HL := Lib.hid hl
    clear hc hvb hsv hsf hl hE
    go_enter Tryz.func20, Tryz.ntmps20
    go_wp2_with (go_at_call 53; refine (HSZ.out _).mono ?_; rintro e w1 ⟨rfl, hB⟩; have HB1 := Lib.hid hB; clear hB)
    clear b1 b2 b3 b4 q1 q2 a1 a2 e1 e3 e4
    go_loopw [8] (fun i wr => RwI w vs n i wr) (fun i _ => n - (intOf i).toNat)
    case atStart => exact ⟨0, Nat.zero_le _, rfl, fun q hq => by omega, HB1.out⟩
    case round =>
      obtain ⟨j, hj, rfl, hv, hB⟩ := hrel
      have HV := Lib.hid hv
      have HB := Lib.hid hB
      by_cases hlt : j < n
      · have hr := Rdv.below HR.out hB
        have hcj := Rd.cell hr hlt
        have hix := fun W => Rdv.ix hr el22 hlt .i64 W
        have HF : Hid (gi vs j < -127 ∨ 127 < gi vs j → E = 6) := Lib.hid (fun h => HE6.out (softB_f (by rw [HL.out]; exact hlt) (by omega)))
        obtain ⟨v, hve⟩ : ∃ v, v = gi vs j := ⟨_, rfl⟩
        rw [← hve] at hcj HF
        have HE := Lib.hid hve
        clear hv hB hr hve
        rcases (by omega : v < -127 ∨ (-127 ≤ v ∧ 127 < v) ∨ (-127 ≤ v ∧ v ≤ 127)) with c1 | ⟨c1, c2⟩ | ⟨c1, c2⟩
        · go_wp2
          go_ret
          exact ⟨ret_int (HF.out (.inl c1)).symm, HB.out⟩
        · go_wp2
          go_ret
          exact ⟨ret_int (HF.out (.inr c2)).symm, HB.out⟩
        · go_wp2
          go_roundw
          case rel => exact ⟨j + 1, by omega, by go_num, fun q hq => lt_succ_cases HV.out (by rw [← HE.out]; exact ⟨c1, c2⟩) q hq, HB.out⟩
          case measure => simp [intOf]; omega
      · have hf := Lib.hid (softB_t (xs := vs) (by rw [HL.out]; intro q hq; exact hv q (by omega)))
        clear hv hB
        go_wp2
        go_ret
        exact ⟨ret_int (HE0.out hf.out).symm, HB.out⟩
end Go.Proofs.YtpdalbckmfadbaaGreat

namespace Go.Proofs.YtpdalbckmfadbaaGreat
open Go.RowKit
set_option linter.unusedVariables false
theorem own_some {w : World} {base : Nat} {A : Option Addr} {n c : Nat} {vs : List Int} (h : Own .u8 5 w base A n c vs) {q : Nat} (hq : q < n) : A ≠ none := by
  intro hA
  subst hA
  obtain ⟨hl, h2⟩ := Ownv.cases h
  rcases h2 with ⟨_, rfl, _⟩ | ⟨g, cur, h3, _⟩
  · omega
  · cases h3
/-- a list of rows of bytes, all of the call's own, each in a block of its own -/
structure BL (w : World) (base : Nat) (A : Option Addr) (c : Nat) (L : List Sv) : Prop where
  o : Ownv 22 w base A L.length c (L.map Sv.v)
  r : ∀ s ∈ L, Own .u8 5 w base s.A s.n s.c s.xs ∧ s.A ≠ none
  p : L.Pairwise (fun s t => blk s.A ≠ blk t.A)
theorem rows_ne {w : World} {e1 e2 : TypeId} {b1 b2 n1 c1 n2 c2 : Nat} {A1 A2 : Option Addr} {v1 v2 : List Value} (h1 : Ownv e1 w b1 A1 n1 c1 v1) (h2 : Ownv e2 w b2 A2 n2 c2 v2) (hne : e1 ≠ e2) (hA : A1 ≠ none) : some (blk A1) ≠ (Value.slice A2 n2 c2).ownBlock := by
  intro h
  obtain ⟨-, g1⟩ := h1.cases
  obtain ⟨-, g2⟩ := h2.cases
  rcases g1 with ⟨rfl, -⟩ | ⟨g, cur, rfl, -, hh, -⟩
  · exact hA rfl
  · rcases g2 with ⟨rfl, -⟩ | ⟨g', cur', rfl, -, hh', -⟩
    · simp [Value.ownBlock] at h
    · have e : g = g' := by simpa [Value.ownBlock, blk] using h
      subst e
      rw [hh] at hh'
      injection hh' with hh'
      injection hh' with _ h9
      exact hne h9
section
variable {w w' : World} {base base' c : Nat} {A : Option Addr} {L : List Sv}
theorem BL.nil (w : World) (base : Nat) : BL w base none 0 [] := ⟨Ownv.nilv 22 w base, by simp, List.Pairwise.nil⟩
theorem BL.below (h : BL w base A c L) (hB : Below w.heap.size w w') : BL w' base A c L := ⟨h.o.below hB, fun s hs => ⟨Ownv.below (h.r s hs).1 hB, (h.r s hs).2⟩, h.p⟩
theorem BL.mono (h : BL w base A c L) (hb : base' ≤ base) : BL w base' A c L := ⟨h.o.mono hb, fun s hs => ⟨Ownv.mono (h.r s hs).1 hb, (h.r s hs).2⟩, h.p⟩
/-- a block below the base has turned -/
theorem BL.grownL (h : BL w base A c L) {B : Nat} (hb : B < base) (hg : w.grownBy w' (some B)) : BL w' base A c L :=
  ⟨h.o.grown hg (fun hA he => by have h1 := (Ownv.blk_of h.o hA).1; have := Option.some.inj he; omega), fun s hs => ⟨Ownv.grown (h.r s hs).1 hg (fun hA he => by have h1 := (Ownv.blk_of (h.r s hs).1 hA).1; have := Option.some.inj he; omega), (h.r s hs).2⟩, h.p⟩
/-- one more row -/
theorem BL.push (h : BL w base A c L) {s : Sv} (hs : Own .u8 5 w base s.A s.n s.c s.xs) (hA : s.A ≠ none) (hp : ∀ t ∈ L, blk t.A ≠ blk s.A) {A' : Option Addr} {c' : Nat}
    (hO : Ownv 22 w' base A' (L.length + 1) c' (L.map Sv.v ++ [s.v])) (hg : w.grownBy w' ((Value.slice A L.length c).ownBlock)) : BL w' base A' c' (L ++ [s]) := by
  refine ⟨by simpa using hO, fun t ht => ?_, ?_⟩
  · rcases List.mem_append.1 ht with ht | ht
    · exact ⟨Ownv.grown (h.r t ht).1 hg (fun hA => rows_ne (h.r t ht).1 h.o (by decide) hA), (h.r t ht).2⟩
    · simp at ht; subst ht
      exact ⟨Ownv.grown hs hg (fun hA => rows_ne hs h.o (by decide) hA), hA⟩
  · rw [List.pairwise_append]
    exact ⟨h.p, List.pairwise_singleton _ _, fun t ht u hu => by simp at hu; subst hu; exact hp t ht⟩
theorem BL.rd (h : BL w base A c L) : Rdv w A L.length c (L.map Sv.v) := h.o.rd
end
end Go.Proofs.YtpdalbckmfadbaaGreat

namespace Go.Proofs.YtpdalbckmfadbaaGreat.CM
/-! Plain arithmetic of the checksum: no program in sight. -/
/-- One bit into the register. -/
def st (L p r : Nat) (b : Bool) : Nat := ((2 * r) % 2 ^ L) ^^^ (if (r.testBit (L - 1)) ^^ b then p else 0)
def run (L p r : Nat) (bs : List Bool) : Nat := bs.foldl (st L p) r
theorem run_append (L p r : Nat) (a b : List Bool) : run L p r (a ++ b) = run L p (run L p r a) b := by simp [run]
theorem tb_mul (x i j : Nat) : (x * 2 ^ i).testBit j = (decide (i ≤ j) && x.testBit (j - i)) := by rw [← Nat.shiftLeft_eq, Nat.testBit_shiftLeft]
section
variable {L p : Nat}
theorem st_bit (r : Nat) (b : Bool) (j : Nat) : (st L p r b).testBit j = ((decide (j < L) && decide (1 ≤ j) && r.testBit (j - 1)) ^^ (((r.testBit (L - 1)) ^^ b) && p.testBit j)) := by
  unfold st
  rw [Nat.testBit_xor, Nat.testBit_mod_two_pow]
  have h2 : (2 * r).testBit j = (decide (1 ≤ j) && r.testBit (j - 1)) := by
    have := tb_mul r 1 j
    rw [Nat.mul_comm]; simpa using this
  rw [h2]
  cases h : (r.testBit (L - 1) ^^ b) <;> simp [Bool.and_assoc]
theorem st_lt (hp : p < 2 ^ L) (r : Nat) (b : Bool) : st L p r b < 2 ^ L := by
  unfold st
  refine Nat.xor_lt_two_pow (Nat.mod_lt _ (Nat.two_pow_pos L)) ?_
  split
  · exact hp
  · exact Nat.two_pow_pos L
theorem run_lt (hp : p < 2 ^ L) : ∀ (bs : List Bool) (r : Nat), r < 2 ^ L → run L p r bs < 2 ^ L
  | [], _, h => h
  | x :: bs, r, _ => run_lt hp bs _ (st_lt hp r x)
/-- The bits of a register, the most significant first. -/
def bitsOf (L r : Nat) : List Bool := (List.range L).map fun t => r.testBit (L - 1 - t)
theorem bitsOf_len (L r : Nat) : (bitsOf L r).length = L := by simp [bitsOf]
/-- A list of L bits is the bits of a number. -/
def val : List Bool → Nat
  | [] => 0
  | b :: bs => (if b then 2 ^ bs.length else 0) + val bs
end
end Go.Proofs.YtpdalbckmfadbaaGreat.CM

