/-
  Bundle of the texts Im In Io. Conditions: none.
-/
import Derived.Test.YtpdalbckmfadbaaBunax
namespace Go.Proofs.Ytpdalbckmfadbaa
open Go.RowKit
set_option linter.unusedVariables false
attribute [local go_sem] Oper.semAt_some
theorem num_any (k : Int) (w : World) : Calls Try.prog 8 #[.int .i64 k] w fun e w' => e = .returned (.int .i64 k) ∧ w = w' := by
  go_enter Try.func8, Try.ntmps8
  go_wp2
  go_ret
  exact ⟨rfl, rfl⟩
theorem same_any (A B : Option Addr) (n c m d : Nat) (xs ys : List Int) (w : World) (hx : Rd .u8 w A n c xs) (hy : Rd .u8 w B m d ys) (h1 : ∀ x ∈ xs, 0 ≤ x ∧ x < 256) (h2 : ∀ x ∈ ys, 0 ≤ x ∧ x < 256) :
    Calls Try.prog 9 #[.slice A n c, .slice B m d] w fun e w' => e = .returned (.bool (decide (xs = ys))) ∧ w = w' := by
  have c1 := conv_rd hx
  have c2 := conv_rd hy
  rw [← strEq h1 h2]
  clear h1 h2 hx hy
  generalize strOfNums xs = s at *
  generalize strOfNums ys = t at *
  go_enter Try.func9, Try.ntmps9
  go_wp2
  go_ret
  exact ⟨rfl, rfl⟩
def FvI (w : World) (n : Nat) (Am : Option Addr) (i : Value) (wr : World) : Prop := ∃ (j : Nat) (cur : List Int), j ≤ n ∧ i = .int .i64 (j : Int) ∧ Own .i64 3 wr w.heap.size Am n n cur ∧ (∀ q, q < j → gi cur q = 5) ∧ Below w.heap.size w wr
set_option maxRecDepth 100000 in
theorem fives_any (n : Nat) (w : World) (hn : n ≤ 100000) : Calls Try.prog 13 #[.int .i64 (n : Int)] w fun e w' => ∃ A', e = .returned (.slice A' n n) ∧ Own .i64 3 w' w.heap.size A' n n (List.replicate n 5) ∧ Below w.heap.size w w' := by
  go_enter Try.func13, Try.ntmps13
  go_wp2_with (at_make; refine list_of rfl fun K hK => wp_mk (n := n) _ _ 22 rfl el22 rfl rfl (by omega) (by unfold maxLen; omega) ?_
               intro Am w3 hO3 hB3 hA
               have HO3 := Lib.hid hO3
               have HB3 := Lib.hid hB3
               clear hO3 hB3 hA
               refine hK _ _ ?_
               clear hK K)
  go_loopw [4] (fun i wr => FvI w n Am i wr) (fun i _ => n - (intOf i).toNat)
  case atStart => exact ⟨0, List.replicate n 0, Nat.zero_le _, rfl, by have := HO3.out; unfold Own; simpa using this, fun q hq => by omega, HB3.out⟩
  case round =>
    obtain ⟨j, cur, hj, rfl, hO, hsame, hB⟩ := hrel
    have HB := Lib.hid hB
    have HS := Lib.hid hsame
    by_cases hlt : j < n
    · have hcu := Rd.cell (Own.rd hO) hlt
      have hfu := Ownv.frozen hO (by omega) j
      have hiu := fun W => Rdv.ix (Own.rd hO) el22 hlt .i64 W
      have HST := Lib.hid (Own.set_ hO hlt 5)
      have hbA := (Ownv.blk_ge hO (by omega)).1
      have HB2 := Lib.hid (hB.grown (Own.set_ hO hlt 5).2 hB.size (fun k e => by cases e; exact hbA))
      have hcl := Rd.len (Own.rd hO)
      clear hO hB hsame
      go_wp2
      go_roundw
      case rel => exact ⟨j + 1, cur.set j 5, by omega, by go_num, HST.out.1, lt_succ_cases (fun q hq => by rw [gi_set' _ _ _ _ (by omega), if_neg (by omega)]; exact HS.out q hq) (by rw [gi_set' _ _ _ _ (by omega), if_pos rfl]), HB2.out⟩
      case measure => simp [intOf]; omega
    · obtain rfl : j = n := by omega
      have hle := Rd.len (Own.rd hO)
      have HLE := Lib.hid (show cur = List.replicate j 5 from ext_gi (by simp [hle]) fun q hq => by
        rw [hsame q (by omega), gi_eq _ q (by rw [List.length_replicate]; omega), List.getElem_replicate])
      have HO9 := Lib.hid hO
      clear hO hsame hle hB
      go_wp2
      go_ret
      exact ⟨Am, rfl, by rw [← HLE.out]; exact HO9.out, HB.out⟩
/-! ### the examples -/
def v5 : List Int := List.replicate 132 5
def y5 : List Int := (v5.set 3 (-5)).set 60 (-5)
def u5 : List Int := y5.set 0 128
def z40 : List Int := List.replicate 40 0
theorem wrd_z : Tu.wrd (List.replicate 40 false) = List.replicate 132 false := by decide +kernel
theorem sz0 : 40 = Tu.szK 0 := by decide
theorem v5_sgn : Sgn v5 40 (List.replicate 40 false) (fun _ => 5) := by
  intro q hq
  rw [wrd_z]
  have hq : q < 132 := by omega
  refine ⟨?_, by show (1 : Int) ≤ 5; omega, by show (5 : Int) ≤ 127; omega⟩
  unfold v5 Tu.gB gi
  rw [List.getD_eq_getElem?_getD, List.getD_eq_getElem?_getD, List.getElem?_replicate, List.getElem?_replicate, if_pos hq, if_pos hq]
  rfl
theorem dec_v5 : decN v5 40 0 = z40 ∧ decN v5 40 1 = z40 := by
  have h := clean_two sz0 (x := List.replicate 40 false) (List.length_replicate ..) v5_sgn
  have e : (List.replicate 40 false).map ib = z40 := by decide
  rw [e] at h
  exact h
theorem dec_w5 : decN y5 40 0 = z40 := by
  have h := hold_one sz0 (by omega) (M := 5) (x := List.replicate 40 false) (vs := y5) ⟨by omega, by omega⟩ (List.length_replicate ..) 3 60 (fun q hq => by
    rw [wrd_z]
    have hq : q < 132 := by omega
    have : ∀ q, q < 132 → gi y5 q = sgM 5 3 60 q * (1 - 2 * (bq (Tu.gB (List.replicate 132 false) q) : Int)) := by decide +kernel
    exact this q hq)
  rw [h]; decide
theorem chk_z : Cr.chkErr 1 z40 = 0 ∧ Cr.chkErr 3 z40 = 0 := by decide +kernel
theorem wr_v : wrE v5 1 8 = 0 ∧ wrE v5 0 8 = 0 ∧ wrE v5 0 1 = 0 ∧ wrE v5 5 8 = 2 ∧ wrE y5 3 1 = 0 ∧ wrE (List.replicate 131 5) 0 8 = 2 ∧ wrE u5 0 8 = 6 := by decide +kernel
theorem kv5 : kOf v5 = 40 ∧ kOf y5 = 40 := by decide +kernel
theorem fd_of {vs : List Int} {kind : Int} {m h k : Nat} (hk : kOf vs = k) (hh : h < m) (h1 : okN kind vs k h = true) (h2 : ∀ q, q < h → okN kind vs k q = false) : fdN vs kind (m : Int) = some h := by
  unfold fdN
  rw [Int.toNat_natCast, List.find?_range_eq_some, hk]
  exact ⟨h1, List.mem_range.2 hh, fun q hq => by rw [h2 q hq]; rfl⟩
theorem ok0_0 (vs : List Int) (k : Nat) : okN 0 vs k 0 = false := by unfold okN; rw [if_pos rfl]; simp
theorem it_of {vs : List Int} {kind most : Int} {h k : Nat} (hk : kOf vs = k) (hE : wrE vs kind most = 0) (hf : fdN vs kind most = some h) : itE vs kind most = 0 ∧ itH vs kind most = ((h + 1 : Nat) : Int) ∧ itD vs kind most = decN vs k h := by
  unfold itE itH itD
  rw [if_pos hE, if_pos hE, if_pos hE, hf, hk]
  exact ⟨rfl, rfl, rfl⟩
theorem ex1 : itE v5 1 8 = 0 ∧ itH v5 1 8 = 1 ∧ itD v5 1 8 = z40 := by
  have hf : fdN v5 1 ((8 : Nat) : Int) = some 0 := fd_of kv5.1 (by omega) (by unfold okN; rw [if_neg (by decide), dec_v5.1, chk_z.1]; rfl) (fun q hq => by omega)
  have h := it_of kv5.1 wr_v.1 hf
  rw [dec_v5.1] at h
  exact h
theorem ok0_1 : okN 0 v5 40 1 = true := by
  unfold okN
  rw [if_pos rfl, show befN v5 40 1 = decN v5 40 0 from rfl, dec_v5.1, dec_v5.2]
  simp
theorem ex2 : itE v5 0 8 = 0 ∧ itH v5 0 8 = 2 ∧ itD v5 0 8 = z40 := by
  have hf : fdN v5 0 ((8 : Nat) : Int) = some 1 := fd_of kv5.1 (by omega) ok0_1 (fun q hq => by rw [show q = 0 by omega]; exact ok0_0 _ _)
  have h := it_of kv5.1 wr_v.2.1 hf
  rw [dec_v5.2] at h
  exact h
theorem ex3 : itE v5 0 1 = 11 := by
  have hf : fdN v5 0 ((1 : Nat) : Int) = none := by
    unfold fdN
    rw [Int.toNat_natCast, List.find?_eq_none]
    intro q hq
    obtain rfl : q = 0 := by have := List.mem_range.1 hq; omega
    rw [ok0_0]; decide
  unfold itE
  rw [if_pos wr_v.2.2.1]
  have hf : fdN v5 0 1 = none := hf
  rw [hf]
theorem ex4 : itE y5 3 1 = 0 ∧ itH y5 3 1 = 1 ∧ itD y5 3 1 = z40 := by
  have hf : fdN y5 3 ((1 : Nat) : Int) = some 0 := fd_of kv5.2 (by omega) (by unfold okN; rw [if_neg (by decide), dec_w5, chk_z.2]; rfl) (fun q hq => by omega)
  have h := it_of kv5.2 wr_v.2.2.2.2.1 hf
  rw [dec_w5] at h
  exact h
theorem itE_bad {vs : List Int} {kind most E : Int} (h : wrE vs kind most = E) (h0 : E ≠ 0) : itE vs kind most = E := by
  unfold itE; rw [if_neg (by rw [h]; exact h0), h]
end Go.Proofs.Ytpdalbckmfadbaa

namespace Go.Proofs.Ytpdalbckmfadbaa
open Go.RowKit
set_option linter.unusedVariables false
attribute [local go_sem] Oper.semAt_some
theorem rd_lt {k : IntKind} {w : World} {A : Option Addr} {n c : Nat} {xs : List Int} (h : Rd k w A n c xs) (hn : 0 < n) : blk A < w.heap.size := by
  have hle := Rdv.le h
  obtain ⟨b, o, rfl, hb⟩ := Rdv.ptr h (by omega)
  exact hb
theorem z40_wf : ∀ x ∈ z40, 0 ≤ x ∧ x < 256 := by decide
theorem f132 (W : World) : Calls Try.prog 13 #[.int .i64 132] W fun e w' => ∃ A', e = .returned (.slice A' 132 132) ∧ Own .i64 3 w' W.heap.size A' 132 132 v5 ∧ Below W.heap.size W w' := fives_any 132 W (by omega)
theorem f131 (W : World) : Calls Try.prog 13 #[.int .i64 131] W fun e w' => ∃ A', e = .returned (.slice A' 131 131) ∧ Own .i64 3 w' W.heap.size A' 131 131 (List.replicate 131 5) ∧ Below W.heap.size W w' := fives_any 131 W (by omega)
set_option maxRecDepth 100000 in
set_option maxHeartbeats 4000000 in
theorem works_any (w : World) : Calls Try.prog 6 #[] w fun e w' => e = .returned (.bool true) ∧ Below w.heap.size w w' := by
  go_enter Try.func6, Try.ntmps6
  go_wp2_with (at_make; refine list_of rfl fun K hK => wp_mk (n := 40) _ _ 24 rfl el26 rfl rfl (by omega) (by unfold maxLen; omega) ?_
               intro Az w1 hO hB hA
               have HZ1 : Hid (Rd .u8 w1 Az 40 40 z40) := Lib.hid (by have := hO.rd; unfold Rd; simpa [z40] using this)
               have HB1 := Lib.hid hB
               clear hO hB hA
               refine hK _ _ ?_
               clear hK K)
  refine (f132 w1).mono ?_
  rintro e w2 ⟨Av, rfl, hV, hB⟩
  have HV2 := Lib.hid (Own.rd hV)
  have HZ2 := Lib.hid (Rdv.below HZ1.out hB)
  have HB2 := Lib.hid (HB1.out.trans (hB.mono HB1.out.size))
  clear hV hB
  go_wp2_with fail
  refine (dec_any Av 132 132 v5 1 8 w2 HV2.out (by omega)).mono ?_
  rintro e w3 ⟨Ra, na, ca, rfl, h, f, hB⟩
  rw [ex1.2.2] at h
  rw [ex1.1, ex1.2.1]
  have HA3 := Lib.hid h
  have HZ3 := Lib.hid (Rdv.below HZ2.out hB)
  have HV3 := Lib.hid (Rdv.below HV2.out hB)
  have HB3 := Lib.hid (HB2.out.trans (hB.mono HB2.out.size))
  clear h f hB
  go_wp2_with fail
  refine (dec_any Av 132 132 v5 0 8 w3 HV3.out (by omega)).mono ?_
  rintro e w4 ⟨Rb, nb, cb, rfl, h, f, hB⟩
  rw [ex2.2.2] at h
  rw [ex2.1, ex2.2.1]
  have HC4 := Lib.hid h
  have HA4 := Lib.hid (Rdv.below HA3.out hB)
  have HZ4 := Lib.hid (Rdv.below HZ3.out hB)
  have HV4 := Lib.hid (Rdv.below HV3.out hB)
  have HB4 := Lib.hid (HB3.out.trans (hB.mono HB3.out.size))
  clear h f hB
  go_wp2_with fail
  refine (dec_any Av 132 132 v5 0 1 w4 HV4.out (by omega)).mono ?_
  rintro e w5 ⟨Rc, nc, cc, rfl, h, f, hB⟩
  rw [ex3]
  have HC5 := Lib.hid (Rdv.below HC4.out hB)
  have HA5 := Lib.hid (Rdv.below HA4.out hB)
  have HZ5 := Lib.hid (Rdv.below HZ4.out hB)
  have HV5 := Lib.hid (Rdv.below HV4.out hB)
  have HB5 := Lib.hid (HB4.out.trans (hB.mono HB4.out.size))
  clear h f hB
  generalize itH v5 0 1 = x3
  go_wp2_with fail
  refine (f132 w5).mono ?_
  rintro e w6 ⟨Aw, rfl, hW, hB⟩
  have lC := rd_lt HC5.out (by rw [← Rd.len HC5.out]; decide)
  have lA := rd_lt HA5.out (by rw [← Rd.len HA5.out]; decide)
  have lZ := rd_lt HZ5.out (by omega)
  have lV := rd_lt HV5.out (by omega)
  have lW := (Ownv.blk_ge hW (by omega)).1
  have HC6 := Lib.hid (Rdv.below HC5.out hB)
  have HA6 := Lib.hid (Rdv.below HA5.out hB)
  have HZ6 := Lib.hid (Rdv.below HZ5.out hB)
  have HV6 := Lib.hid (Rdv.below HV5.out hB)
  have HB6 := Lib.hid (HB5.out.trans (hB.mono HB5.out.size))
  have s1 := Own.set_ hW (show 3 < 132 by omega) (-5)
  have s2 := Own.set_ s1.1 (show 60 < 132 by omega) (-5)
  have c1 := Rd.cell (Own.rd hW) (show 3 < 132 by omega)
  have c2 := Rd.cell (Own.rd s1.1) (show 60 < 132 by omega)
  have f1 := Ownv.frozen hW (by omega) 3
  have f2 := Ownv.frozen s1.1 (by omega) 60
  have i1 := fun W => Rdv.ixI (Own.rd hW) el22 (j := 3) (by omega) .i64 3 rfl W
  have i2 := fun W => Rdv.ixI (Own.rd hW) el22 (j := 60) (by omega) .i64 60 rfl W
  have kp : ∀ {k : IntKind} {X : Option Addr} {n c : Nat} {xs : List Int}, Rd k w6 X n c xs → blk X < w5.heap.size → Rd k ((w6.setCell (adr Aw 3) (.int .i64 (-5))).setCell (adr Aw 60) (.int .i64 (-5))) X n c xs := fun h1 h2 => Rdv.grown (Rdv.grown h1 s1.2 (fun _ e => by have := Option.some.inj e; omega)) s2.2 (fun _ e => by have := Option.some.inj e; omega)
  have HC7 := Lib.hid (kp HC6.out lC)
  have HA7 := Lib.hid (kp HA6.out lA)
  have HZ7 := Lib.hid (kp HZ6.out lZ)
  have HV7 := Lib.hid (kp HV6.out lV)
  have HNC : Hid (blk Rb ≠ blk Aw) := Lib.hid (by omega)
  have HNA : Hid (blk Ra ≠ blk Aw) := Lib.hid (by omega)
  have HNZ : Hid (blk Az ≠ blk Aw) := Lib.hid (by omega)
  have lW2 : w.heap.size ≤ blk Aw := Nat.le_trans HB5.out.size lW
  have HB7 : Hid (Below w.heap.size w ((w6.setCell (adr Aw 3) (.int .i64 (-5))).setCell (adr Aw 60) (.int .i64 (-5)))) := Lib.hid ((HB6.out.grown s1.2 HB6.out.size (fun j e => by cases e; exact lW2)).grown s2.2 (HB6.out.grown s1.2 HB6.out.size (fun j e => by cases e; exact lW2)).size (fun j e => by cases e; exact lW2))
  have HW7 := Lib.hid s2.1
  have HLW := Lib.hid lW2
  clear kp lC lA lZ lV lW lW2 s1 s2 hB hW HC6 HA6 HZ6 HV6 HB6
  go_wp2_with fail
  refine (dec_any Aw 132 132 y5 3 1 _ (Own.rd HW7.out) (by omega)).mono ?_
  rintro e w8 ⟨Rd_, nd, cd, rfl, h, f, hB⟩
  rw [ex4.2.2] at h
  rw [ex4.1, ex4.2.1]
  have HD8 := Lib.hid h
  have lD : blk Rd_ ≠ blk Aw := by
    have h1 := rd_lt (Own.rd HW7.out) (by omega)
    have h2 : Rd_ ≠ none := by
      rintro rfl
      have h3 := Rdv.nil h rfl
      have h4 := Rdv.le h
      have h5 := Rd.len h
      have h6 : z40.length = 40 := by decide
      omega
    have h3 := f h2
    omega
  have HC8 := Lib.hid (Rdv.below HC7.out hB)
  have HA8 := Lib.hid (Rdv.below HA7.out hB)
  have HZ8 := Lib.hid (Rdv.below HZ7.out hB)
  have HV8 := Lib.hid (Rdv.below HV7.out hB)
  have HW8 := Lib.hid (Ownv.below HW7.out hB)
  have HB8 := Lib.hid (HB7.out.trans (hB.mono HB7.out.size))
  have HLD := Lib.hid lD
  clear h f hB lD
  go_wp2_with fail
  refine (f131 w8).mono ?_
  rintro e w9 ⟨Ax, rfl, hX, hB⟩
  have HX9 := Lib.hid (Own.rd hX)
  have HD9 := Lib.hid (Rdv.below HD8.out hB)
  have HC9 := Lib.hid (Rdv.below HC8.out hB)
  have HA9 := Lib.hid (Rdv.below HA8.out hB)
  have HZ9 := Lib.hid (Rdv.below HZ8.out hB)
  have HV9 := Lib.hid (Rdv.below HV8.out hB)
  have HW9 := Lib.hid (Ownv.below HW8.out hB)
  have HB9 := Lib.hid (HB8.out.trans (hB.mono HB8.out.size))
  clear hX hB
  go_wp2_with fail
  refine (dec_any Ax 131 131 (List.replicate 131 5) 0 8 w9 HX9.out (by omega)).mono ?_
  rintro e w10 ⟨Re, ne, ce, rfl, h, f, hB⟩
  rw [itE_bad wr_v.2.2.2.2.2.1 (by decide)]
  have HD10 := Lib.hid (Rdv.below HD9.out hB)
  have HC10 := Lib.hid (Rdv.below HC9.out hB)
  have HA10 := Lib.hid (Rdv.below HA9.out hB)
  have HZ10 := Lib.hid (Rdv.below HZ9.out hB)
  have HV10 := Lib.hid (Rdv.below HV9.out hB)
  have HW10 := Lib.hid (Ownv.below HW9.out hB)
  have HB10 := Lib.hid (HB9.out.trans (hB.mono HB9.out.size))
  clear h f hB
  generalize itH (List.replicate 131 5) 0 8 = x5
  go_wp2_with fail
  refine (dec_any Av 132 132 v5 5 8 w10 HV10.out (by omega)).mono ?_
  rintro e w11 ⟨Rf, nf, cf, rfl, h, f, hB⟩
  rw [itE_bad wr_v.2.2.2.1 (by decide)]
  have HD11 := Rdv.below HD10.out hB
  have HC11 := Rdv.below HC10.out hB
  have HA11 := Rdv.below HA10.out hB
  have HZ11 := Rdv.below HZ10.out hB
  have hW11 := Ownv.below HW10.out hB
  have HB11 := Lib.hid (HB10.out.trans (hB.mono HB10.out.size))
  clear h f hB
  generalize itH v5 5 8 = x6
  have s3 := Own.set_ hW11 (show 0 < 132 by omega) 128
  have c3 := Rd.cell (Own.rd hW11) (show 0 < 132 by omega)
  have f3 := Ownv.frozen hW11 (by omega) 0
  have i3 := fun W => Rdv.ixI (Own.rd hW11) el22 (j := 0) (by omega) .i64 0 rfl W
  have kp : ∀ {k : IntKind} {X : Option Addr} {n c : Nat} {xs : List Int}, Rd k w11 X n c xs → blk X ≠ blk Aw → Rd k (w11.setCell (adr Aw 0) (.int .i64 128)) X n c xs := fun h1 h2 => Rdv.grown h1 s3.2 (fun _ e => h2 (Option.some.inj e))
  have HC12 := Lib.hid (kp HC11 HNC.out)
  have HA12 := Lib.hid (kp HA11 HNA.out)
  have HZ12 := Lib.hid (kp HZ11 HNZ.out)
  have HD12 := Lib.hid (kp HD11 HLD.out)
  have HW12 := Lib.hid s3.1
  have HB12 : Hid (Below w.heap.size w (w11.setCell (adr Aw 0) (.int .i64 128))) := Lib.hid (HB11.out.grown s3.2 HB11.out.size (fun j e => by cases e; exact HLW.out))
  clear kp s3 hW11 HD11 HC11 HA11 HZ11
  go_wp2_with fail
  refine (dec_any Aw 132 132 u5 0 8 _ (Own.rd HW12.out) (by omega)).mono ?_
  rintro e w13 ⟨Rg, ng, cg, rfl, h, f, hB⟩
  rw [itE_bad wr_v.2.2.2.2.2.2 (by decide)]
  have HD13 := Lib.hid (Rdv.below HD12.out hB)
  have HC13 := Lib.hid (Rdv.below HC12.out hB)
  have HA13 := Lib.hid (Rdv.below HA12.out hB)
  have HZ13 := Lib.hid (Rdv.below HZ12.out hB)
  have HB13 := Lib.hid (HB12.out.trans (hB.mono HB12.out.size))
  clear h f hB
  generalize itH u5 0 8 = x7
  go_wp2_with (first
    | (go_at_call 8; refine (num_any _ _).mono ?_; rintro e wx ⟨rfl, rfl⟩)
    | (go_at_call 9; first
        | (refine (same_any Ra Az na ca 40 40 z40 z40 w13 HA13.out HZ13.out z40_wf z40_wf).mono ?_; rintro e wx ⟨rfl, rfl⟩; rw [decide_eq_true rfl])
        | (refine (same_any Rb Az nb cb 40 40 z40 z40 w13 HC13.out HZ13.out z40_wf z40_wf).mono ?_; rintro e wx ⟨rfl, rfl⟩; rw [decide_eq_true rfl])
        | (refine (same_any Rd_ Az nd cd 40 40 z40 z40 w13 HD13.out HZ13.out z40_wf z40_wf).mono ?_; rintro e wx ⟨rfl, rfl⟩; rw [decide_eq_true rfl])))
  go_ret
  exact ⟨rfl, HB13.out⟩
end Go.Proofs.Ytpdalbckmfadbaa

namespace Go.Proofs.Ytpdalbckmfadbaa
open Go.RowKit
set_option linter.unusedVariables false
attribute [local go_sem] Oper.semAt_some
theorem same_self (A B : Option Addr) (n c m d : Nat) (xs : List Int) (w : World) (hx : Rd .u8 w A n c xs) (hy : Rd .u8 w B m d xs) :
    Calls Try.prog 9 #[.slice A n c, .slice B m d] w fun e w' => e = .returned (.bool true) ∧ w = w' := by
  have c1 := conv_rd hx
  have c2 := conv_rd hy
  clear hx hy
  generalize strOfNums xs = s at *
  have hs : decide (s = s) = true := decide_eq_true rfl
  rw [← hs]
  clear hs
  go_enter Try.func9, Try.ntmps9
  go_wp2
  go_ret
  first | exact ⟨rfl, rfl⟩ | (refine ⟨?_, rfl⟩; simp)
theorem it_zero {vs : List Int} {kind most : Int} (h : itE vs kind most = 0) : wrE vs kind most = 0 ∧ ∃ j, fdN vs kind most = some j := by
  by_cases hE : wrE vs kind most = 0
  · refine ⟨hE, ?_⟩
    unfold itE at h
    rw [if_pos hE] at h
    cases hf : fdN vs kind most with
    | none => rw [hf] at h; exact absurd h (by decide)
    | some j => exact ⟨j, rfl⟩
  · unfold itE at h
    rw [if_neg hE] at h
    exact absurd h hE
theorem it_none {vs : List Int} {kind most : Int} (h : itE vs kind most ≠ 0) : itH vs kind most = 0 ∧ itD vs kind most = [] := by
  unfold itH itD
  by_cases hE : wrE vs kind most = 0
  · rw [if_pos hE, if_pos hE]
    cases hf : fdN vs kind most with
    | none => exact ⟨rfl, rfl⟩
    | some j => exact absurd (it_of rfl hE hf).1 h
  · rw [if_neg hE, if_neg hE]; exact ⟨rfl, rfl⟩
theorem it_more {vs : List Int} {kind most : Int} (h : itE vs kind most = 0) (hm : most ≤ 60) :
    itE vs kind (most + 2) = 0 ∧ itH vs kind (most + 2) = itH vs kind most ∧ itD vs kind (most + 2) = itD vs kind most ∧ 1 ≤ itH vs kind most ∧ itH vs kind most ≤ most ∧ (kind ≠ 0 → Cr.chkErr kind (itD vs kind most) = 0) := by
  obtain ⟨hE, j, hj⟩ := it_zero h
  obtain ⟨a1, a2, a3, a4, a5⟩ := wrE_zero hE
  obtain ⟨m, rfl⟩ := Int.eq_ofNat_of_zero_le (show 0 ≤ most by omega)
  obtain ⟨-, e2, e3⟩ := it_of rfl hE hj
  unfold fdN at hj
  rw [Int.toNat_natCast, List.find?_range_eq_some] at hj
  obtain ⟨b1, b2, b3⟩ := hj
  have hjm := List.mem_range.1 b2
  have hE2 : wrE vs kind ((m + 2 : Nat) : Int) = 0 := by
    unfold wrE
    rw [if_neg ?_, if_pos a5]
    rintro (q | q | q | q | q | q)
    · exact q a1
    · rw [a2] at q; cases q
    all_goals omega
  obtain ⟨d1, d2, d3⟩ := it_of rfl hE2 (fd_of rfl (show j < m + 2 by omega) b1 (fun q hq => by simpa using b3 q hq))
  rw [show ((m : Int) + 2) = ((m + 2 : Nat) : Int) by omega]
  refine ⟨d1, d2.trans e2.symm, d3.trans e3.symm, by rw [e2]; omega, by rw [e2]; omega, fun hk => ?_⟩
  rw [e3]
  unfold okN at b1
  rw [if_neg hk] at b1
  exact of_decide_eq_true b1
theorem it_len {vs : List Int} {kind most : Int} {n : Nat} (h : itE vs kind most = 0) (hl : vs.length = n) (hn : n ≤ 600) : (itD vs kind most).length ≤ 600 := by
  obtain ⟨hE, j, hj⟩ := it_zero h
  obtain ⟨a1, a2, a3, a4, a5⟩ := wrE_zero hE
  rw [(it_of rfl hE hj).2.2]
  have hb := Tu.valid_bd a2
  have hk : kOf vs ≤ 200 := by unfold kOf; omega
  unfold decN
  split
  · show (obN vs (kOf vs) j).dB.length ≤ _
    rw [dB_len (obN_ok a5 (by unfold kOf at hk ⊢; omega) j)]
    show (apN vs (kOf vs) j).length ≤ _
    rw [(apN_ok vs (kOf vs) j).1]; omega
  · rw [pk_len, inv_len]; omega
set_option maxRecDepth 100000 in
set_option maxHeartbeats 1000000 in
theorem more_any (A : Option Addr) (n c : Nat) (xs : List Int) (kind most : Int) (w : World) (hx : Rd .i64 w A n c xs) (hmn : -9223372036854775808 ≤ most) :
    Calls Try.prog 3 #[.slice A n c, .int .i64 kind, .int .i64 most] w fun e w' => e = .returned (.bool true) ∧ Below w.heap.size w w' := by
  have hbd := hx.bd.1
  by_cases h1 : 400 < n
  · clear hx
    go_enter Try.func3, Try.ntmps3
    go_wp2_with (go_at_call 6; refine (works_any _).mono ?_; rintro e w9 ⟨rfl, hB9⟩)
    go_ret
    exact ⟨rfl, hB9⟩
  by_cases h2 : 6 < most
  · clear hx
    go_enter Try.func3, Try.ntmps3
    go_wp2_with (go_at_call 6; refine (works_any _).mono ?_; rintro e w9 ⟨rfl, hB9⟩)
    go_ret
    exact ⟨rfl, hB9⟩
  have hle := Rdv.le hx
  have c1 := dec_any A n c xs kind most w hx (by omega)
  unfold DcA at c1
  by_cases hE : itE xs kind most = 0
  · obtain ⟨m1, m2, m3, m4, m5, m6⟩ := it_more hE (by omega)
    have c2 := fun W (hW : Rd .i64 W A n c xs) => dec_any A n c xs kind (most + 2) W hW (by omega)
    unfold DcA at c2
    rw [m1, m2, m3] at c2
    rw [hE] at c1
    have hw := IntWalk.i64_in (most + 2) (by omega)
    have hEE := hE
    clear m1 m2 m3 hE
    have dl := it_len hEE hx.len (by omega)
    clear hEE
    generalize itH xs kind most = H at *
    generalize itD xs kind most = D at *
    have C1 := Lib.hid c1
    have C2 := Lib.hid c2
    have M6 := Lib.hid m6
    have DL := Lib.hid dl
    clear dl
    have HX := Lib.hid hx
    have q2 : (H != H) = false := by simp
    clear c1 c2 m6 hx hle hbd
    go_enter Try.func3, Try.ntmps3
    go_wp2_with fail
    refine C1.out.mono ?_
    rintro e w1 ⟨R, nr, rc, rfl, hR, -, hB⟩
    have HR := Lib.hid hR
    have HB := Lib.hid hB
    have HX1 := Lib.hid (Rdv.below HX.out hB)
    clear hR hB
    go_wp2_with (go_at_call 8; refine (num_any _ _).mono ?_; rintro e wx ⟨rfl, rfl⟩)
    refine (C2.out w1 HX1.out).mono ?_
    rintro e w2 ⟨R2, nr2, rc2, rfl, hR, -, hB⟩
    have HR2 := Lib.hid hR
    have HR1 := Lib.hid (Rdv.below HR.out hB)
    have HB2 := Lib.hid (HB.out.trans (hB.mono HB.out.size))
    clear hR hB
    by_cases hk : kind = 0
    · rw [hk]
      go_wp2_with (first
        | (go_at_call 8; refine (num_any _ _).mono ?_; rintro e wx ⟨rfl, rfl⟩)
        | (go_at_call 9; refine (same_self R R2 nr rc nr2 rc2 D w2 HR1.out HR2.out).mono ?_; rintro e wx ⟨rfl, rfl⟩)
        | (go_at_call 6; refine (works_any _).mono ?_; rintro e w9 ⟨rfl, hB9⟩))
      go_ret
      exact ⟨rfl, HB2.out.trans (hB9.mono HB2.out.size)⟩
    · have q3 := bne_t hk
      have hck := M6.out hk
      have hnr : nr ≤ 100000 := by have h1 := Rd.len HR1.out; have h2 := DL.out; omega
      have CK := Lib.hid (Cr.check_any kind R nr rc D w2 HR1.out hnr)
      rw [hck] at CK
      clear hck hk
      go_wp2_with (first
        | (go_at_call 8; refine (num_any _ _).mono ?_; rintro e wx ⟨rfl, rfl⟩)
        | (go_at_call 9; refine (same_self R R2 nr rc nr2 rc2 D w2 HR1.out HR2.out).mono ?_; rintro e wx ⟨rfl, rfl⟩))
      refine CK.out.mono ?_
      rintro e w3 ⟨A3, n3, c3, rfl, -, hB⟩
      have HB3 := Lib.hid (HB2.out.trans (hB.mono HB2.out.size))
      clear hB
      go_wp2_with (first
        | (go_at_call 8; refine (num_any _ _).mono ?_; rintro e wx ⟨rfl, rfl⟩)
        | (go_at_call 6; refine (works_any _).mono ?_; rintro e w9 ⟨rfl, hB9⟩))
      go_ret
      exact ⟨rfl, HB3.out.trans (hB9.mono HB3.out.size)⟩
  · obtain ⟨m1, m2⟩ := it_none hE
    rw [m1, m2] at c1
    have q := bne_t hE
    clear m1 m2 hE
    generalize itE xs kind most = E at *
    have C1 := Lib.hid c1
    clear c1 hx hle hbd
    go_enter Try.func3, Try.ntmps3
    go_wp2_with fail
    refine C1.out.mono ?_
    rintro e w1 ⟨R, nr, rc, rfl, hR, -, hB⟩
    have hnr := Rd.len hR
    simp only [List.length_nil] at hnr
    subst hnr
    clear hR
    have HB := Lib.hid hB
    clear hB
    go_wp2_with (first
      | (go_at_call 8; refine (num_any _ _).mono ?_; rintro e wx ⟨rfl, rfl⟩)
      | (go_at_call 6; refine (works_any _).mono ?_; rintro e w9 ⟨rfl, hB9⟩))
    go_ret
    exact ⟨rfl, HB.out.trans (hB9.mono HB.out.size)⟩
end Go.Proofs.Ytpdalbckmfadbaa

