/- Bundle. Conditions: none. -/
import Derived.Test.YtkdfefpnhaebfaaGreatBuobn
import Derived.Test.YtkdfefpnhaebfaaGreatBuoak
import Derived.Test.YtkdfefpnhaebfaaGreatBuoat
import Derived.StillTailTactics
set_option linter.unusedVariables false
set_option linter.unusedSimpArgs false
namespace Go.Proofs.YtkdfefpnhaebfaaGreat
open Go.RowKit
attribute [local go_sem] Oper.semAt_some
set_option maxRecDepth 100000
set_option maxHeartbeats 1000000
theorem stream_any (k : Nat) (f lim : Int) (w : World) (hk : k ≤ 100000) : Calls Tryz.prog 165 #[.agg #[.int .i64 (k : Int), .int .i64 f, .int .i64 lim]] w fun e w' => e = .returned (.int .i64 ((k : Int) + 4)) ∧ Below w.heap.size w w' := by
 have HB := Lib.hid ((Below.refl w.heap.size w).alloc (Nat.le_refl _) (.cells #[.int .i64 (k : Int), .int .i64 f, .int .i64 lim] 155))
 go_enter Tryz.func165, Tryz.ntmps165
 go_wp2
 go_ret
 exact ⟨rfl, HB.out⟩
theorem own_ne3 {w : World} {base : Nat} {A : Option Addr} {n c : Nat} {vs : List Int} (h : Own .i64 3 w base A n c vs) {q : Nat} (hq : q < n) : A ≠ none := by
 intro hA
 subst hA
 obtain ⟨hl, h2⟩ := Ownv.cases h
 rcases h2 with ⟨_, rfl, _⟩ | ⟨g, cur, h3, _⟩
 · omega
 · cases h3
def frI (k f i : Nat) : Int := if i < f ∨ (k + 4 ≤ i ∧ i < k + 4 + f) then 127 else 0
def frL (k f : Nat) : List Int := (List.range (3 * (k + 4))).map (frI k f)
def FrI2 (w : World) (k f BX : Nat) (lim : Int) (Am : Option Addr) (i : Value) (wr : World) : Prop := ∃ (j : Nat) (cur : List Int), j ≤ f ∧ i = .int .i64 (j : Int) ∧ Own .i64 3 wr w.heap.size Am (3 * (k + 4)) (3 * (k + 4)) cur ∧ (∀ q, q < 3 * (k + 4) → gi cur q = frI k j q) ∧ Blk wr BX 155 [.int .i64 (k : Int), .int .i64 (f : Int), .int .i64 lim] ∧ Below w.heap.size w wr
theorem info3i : (Tryz.prog.info? 155).map (·.size) = some 3 := by kernel_rfl
theorem fresh_any (k f : Nat) (lim : Int) (w : World) (hk : k ≤ 6144) (hf : f < k) : Calls Tryz.prog 117 #[.agg #[.int .i64 (k : Int), .int .i64 (f : Int), .int .i64 lim]] w fun e w' => ∃ A, e = .returned (.slice A (3 * (k + 4)) (3 * (k + 4))) ∧ Own .i64 3 w' w.heap.size A (3 * (k + 4)) (3 * (k + 4)) (frL k f) ∧ Below w.heap.size w w' := by
 have HST := Lib.hid (fun W => stream_any k (f : Int) lim W (by omega))
 have hb0 : Below w.heap.size w (w.alloc (.cells #[.int .i64 (k : Int), .int .i64 f, .int .i64 lim] 155)) := (Below.refl _ w).alloc (Nat.le_refl _) _
 have hx0 : Blk (w.alloc (.cells #[.int .i64 (k : Int), .int .i64 f, .int .i64 lim] 155)) w.heap.size 155 [.int .i64 (k : Int), .int .i64 f, .int .i64 lim] := Blk.new w [.int .i64 (k : Int), .int .i64 f, .int .i64 lim] _ rfl
 obtain ⟨N, hN⟩ : ∃ N : Nat, N = 3 * (k + 4) := ⟨_, rfl⟩
 have q3 : IntKind.i64.wrap (3 * ((k : Int) + 4)) = (N : Int) := by rw [IntWalk.i64_in _ (by omega)]; omega
 have q4 : wrap64 (3 * ((k : Int) + 4)) = (N : Int) := by rw [← IntWalk.i64_left]; exact q3
 have HB0 := Lib.hid hb0
 have HX0 := Lib.hid hx0
 have HN := Lib.hid hN
 have hN9 : N ≤ 20000 := by omega
 clear hb0 hN
 go_enter Tryz.func117, Tryz.ntmps117
 go_wp2_with (refine ldrow (cs := [.int .i64 (k : Int), .int .i64 f, .int .i64 lim]) rfl 155 (.tmp 1) rfl rfl hx0 _ Tryz.underlying155 rfl (by rw [info3i]; rfl) ?_)
 refine (HST.out _).mono ?_
 rintro e w1 ⟨rfl, hB1⟩
 have HX1 := Lib.hid (HX0.out.below hB1)
 have HB1 := Lib.hid (HB0.out.trans (hB1.mono HB0.out.size))
 clear hB1 hx0
 go_wp2_with (at_make
              refine list_of rfl fun K hK => wp_mk (n := N) _ _ 39 rfl el22 rfl rfl (by omega) (by unfold maxLen; omega) ?_
              intro Am w3 hO3 hB3 hA
              have HO3 : Hid (Own .i64 3 w3 w1.heap.size Am N N (List.replicate N 0)) := Lib.hid (by unfold Own; simpa using hO3)
              have HX3 := Lib.hid (HX1.out.below hB3)
              have HB3 := Lib.hid (HB1.out.trans (hB3.mono HB1.out.size))
              have c31 := HX3.out.cell (j := 1) (v := .int .i64 (f : Int)) rfl
              clear hO3 hB3 hA
              refine hK _ _ ?_
              clear hK K)
 obtain ⟨BX, hBX⟩ : ∃ BX, BX = w.heap.size := ⟨_, rfl⟩
 rw [← hBX] at HX3 ⊢
 have HBX := Lib.hid hBX
 clear c31 hBX q3 q4
 go_loopw [11] (fun i wr => FrI2 w k f BX lim Am i wr) (fun i _ => f - (intOf i).toNat)
 case atStart =>
  refine ⟨0, List.replicate N 0, Nat.zero_le _, rfl, by rw [← HN.out]; exact Ownv.mono HO3.out HB1.out.size, fun q hq => ?_, HX3.out, HB3.out⟩
  rw [gi_zero]
  unfold frI
  rw [if_neg (by omega)]
 case round =>
  obtain ⟨j, cur, hj, rfl, hO, hq, hX, hB⟩ := hrel
  rw [← HN.out] at hO
  have hN := HN.out
  have HQ := Lib.hid hq
  have HO := Lib.hid hO
  have HX := Lib.hid hX
  have HB := Lib.hid hB
  by_cases hlt : j < f
  · clear hO hq hB hN
    go_wp2_with (refine ldrow (cs := [.int .i64 (k : Int), .int .i64 f, .int .i64 lim]) rfl 155 (.tmp 1) rfl rfl hX _ Tryz.underlying155 rfl (by rw [info3i]; rfl) ?_)
    refine (HST.out _).mono ?_
    rintro e w4 ⟨rfl, hB4⟩
    have hN := HN.out
    have hO4 := Ownv.below HO.out hB4
    have hX4 := HX.out.below hB4
    have hB4' := HB.out.trans (hB4.mono HB.out.size)
    have hcl := Rd.len (Own.rd HO.out)
    have hA : Am ≠ none := own_ne3 HO.out (q := 0) (by omega)
    have hge := (Ownv.blk_of hO4 hA).1
    have hS1 := Own.set_ hO4 (j := j) (by omega) 127
    have hS2 := Own.set_ hS1.1 (j := k + 4 + j) (by omega) 127
    have hf1 := Ownv.frozen hO4 (by omega) j
    have hc1 := Rd.cell (Own.rd hO4) (j := j) (by omega)
    have hi1 := fun W => Rdv.ix (Own.rd hO4) el22 (j := j) (by omega) .i64 W
    have hf2 := Ownv.frozen hS1.1 (by omega) (k + 4 + j)
    have hc2 := Rd.cell (Own.rd hS1.1) (j := k + 4 + j) (by omega)
    have hi2 := fun W => Rdv.ixI (Own.rd hO4) el22 (j := k + 4 + j) (by omega) .i64 ((k : Int) + 4 + (j : Int)) (by omega) W
    have hne : BX ≠ blk Am := by
     have h1 := hX4.lt
     intro e
     obtain ⟨-, g1⟩ := Ownv.cases hO4
     rcases g1 with ⟨h, -⟩ | ⟨g, cur2, h, -, hh, -⟩
     · exact hA h
     · rw [h] at e
       have e : BX = g := e
       subst e
       have h2 : w4.heap[BX]? = _ := hX4
       rw [hh] at h2
       injection h2 with h2
       injection h2 with _ h9
       exact absurd h9 (by decide)
    have HO5 := Lib.hid hS2.1
    have HX5 := Lib.hid ((hX4.grown hS1.2 hne).grown hS2.2 hne)
    have HB5 := Lib.hid ((hB4'.grown hS1.2 hB4'.size (fun k e => by cases e; exact hge)).grown hS2.2 (Nat.le_trans hB4'.size hS1.2.size) (fun k e => by cases e; exact hge))
    have HCL := Lib.hid hcl
    clear hS1 hS2 hO4 hX4 hB4' hB4 hcl hge hne hX hN
    go_wp2
    go_roundw
    case rel =>
     refine ⟨j + 1, _, by omega, by go_num, by rw [← HN.out]; exact HO5.out, fun q hq => ?_, HX5.out, HB5.out⟩
     have h7 := HQ.out q hq
     have hN := HN.out
     have h8 := HCL.out
     rw [gi_set' _ _ _ _ (by rw [List.length_set]; omega), gi_set' _ _ _ _ (by omega), h7]
     unfold frI
     split
     · rw [if_pos (by omega)]
     · split
       · rw [if_pos (by omega)]
       · split
         · rw [if_pos (by omega)]
         · rw [if_neg (by omega)]
    case measure => simp [intOf]; omega
  · obtain rfl : j = f := by omega
    have hE : cur = frL k j := ext_gi (by have := Rd.len (Own.rd hO); simp [frL]; omega) fun q hq9 => by
     have hq8 : q < 3 * (k + 4) := by have := Rd.len (Own.rd hO); omega
     rw [hq q hq8]
     unfold frL
     rw [gi_range _ hq8]
    rw [hE] at HO
    clear hO hq hX hB hE hN
    go_wp2
    go_ret
    exact ⟨Am, by rw [← HN.out]; rfl, by rw [← HN.out]; exact HO.out, HB.out⟩
end Go.Proofs.YtkdfefpnhaebfaaGreat
namespace Go.Proofs.YtkdfefpnhaebfaaGreat.Cr
open Go.RowKit Go.Shelf
attribute [local go_sem] Oper.semAt_some
set_option maxRecDepth 100000
set_option maxHeartbeats 4000000
def MtPost (xs B : List Int) (st N e : Nat) (w : World) (en : Ending) (w' : World) : Prop :=
 Below w.heap.size w w' ∧ ((e ≠ 0 ∧ usC B = 0 ∧ en = .returned (.tuple #[.slice none 0 0, .int .i64 10])) ∨
  ((e = 0 ∨ usC B ≠ 0) ∧ ∃ A c T, (selL B st N T).length = e ∧ en = .returned (.tuple #[.slice A e c, .int .i64 0]) ∧ A ≠ none ∧ Own .u8 5 w' w.heap.size A e c ((selL B st N T).map fun p => gi xs p.toNat)))
def MtI (xs L : List Int) (e : Nat) (Am : Option Addr) (w : World) (i : Value) (wr : World) : Prop := ∃ (j : Nat) (cur : List Int), j ≤ e ∧ i = .int .i64 (j : Int) ∧ Own .u8 5 wr w.heap.size Am e e cur ∧ (∀ q, q < j → gi cur q = gi xs (gi L q).toNat) ∧ Below w.heap.size w wr
theorem match_any (A : Option Addr) (n c : Nat) (xs : List Int) (k f rv e : Nat) (lim : Int) (w : World) (hx : Rd .u8 w A n c xs) (hv : ValidB xs = true) (hn : n = 3 * (k + 4)) (h1 : 40 ≤ k) (h2 : k ≤ 6144) (hf : f < k) (hl : 1 ≤ lim) (hrv : rv ≤ 3) (he : e ≤ 131072)
 (hBn : ∀ x, x ∈ (bufL k f).take (szB k lim) → x < (n : Int)) (hZ0 : 0 < szB k lim) (hZl : szB k lim ≤ ((bufL k f).take (szB k lim)).length) :
 Calls Tryz.prog 32 #[.slice A n c, .int .i64 f, .int .i64 lim, .int .i64 rv, .int .i64 e] w (MtPost xs ((bufL k f).take (szB k lim)) (stS k (szB k lim) rv) (szB k lim) e w) := by
 have HPO := Lib.hid (fun W => positions_any k f rv e lim W h1 h2 hf hl hrv he)
 have HCO := Lib.hid (fun W (h : Rd .u8 W A n c xs) => contains4_any A n c xs W h)
 rw [hv] at HCO
 have HSM := Lib.hid (fun T x => selL_mem (B := (bufL k f).take (szB k lim)) (st := stS k (szB k lim) rv) (N := szB k lim) hZ0 hZl T x)
 generalize (bufL k f).take (szB k lim) = B at *
 generalize stS k (szB k lim) rv = st at *
 generalize szB k lim = Z at *
 have a1 : (n : Int).tdiv 3 = ((k + 4 : Nat) : Int) := by rw [Int.tdiv_eq_ediv_of_nonneg (by omega), hn]; omega
 have a2 : (n : Int) / 3 = ((k + 4 : Nat) : Int) := by omega
 have a3 : (n : Int).tmod 3 = 0 := by rw [Int.tmod_eq_emod_of_nonneg (by omega)]; omega
 have a4 : (n : Int) % 3 = 0 := by omega
 have a5 : IntKind.i64.wrap (((k + 4 : Nat) : Int) - 4) = (k : Int) := by rw [IntKind.wrap_i64]; omega
 have a6 : IntKind.i64.wrap ((k + 4 : Nat) : Int) = ((k + 4 : Nat) : Int) := by rw [IntKind.wrap_i64]; omega
 have HX := Lib.hid hx
 have HBN := Lib.hid hBn
 have HN := Lib.hid hn
 obtain ⟨k4, hk4⟩ : ∃ k4, k4 = k + 4 := ⟨_, rfl⟩
 rw [← hk4] at a1 a2 a5 a6
 clear hx hBn hn h1 h2 hf hl hv hk4 hZ0 hZl
 go_enter Tryz.func32, Tryz.ntmps32
 go_wp2_with fail
 refine (HPO.out _).mono ?_
 rintro en w1 ⟨hB1, h⟩
 have HB1 := Lib.hid hB1
 have HX1 := Lib.hid (Rdv.below HX.out hB1)
 clear hB1
 rcases h with ⟨hne, hu0, rfl⟩ | ⟨hor, Ap, cp, T, hlen, rfl, hO⟩
 · have HNE := Lib.hid hne
   have HU0 := Lib.hid hu0
   clear hne hu0
   go_wp2_with (go_at_call 61; refine (HCO.out _ HX1.out).mono ?_; rintro en w2 ⟨rfl, rfl⟩)
   go_ret2
   exact ⟨HB1.out, .inl ⟨HNE.out, HU0.out, rfl⟩⟩
 · have HLN := Lib.hid hlen
   have HOR := Lib.hid hor
   have HLL : Hid (∀ q, q < e → 0 ≤ gi (selL B st Z T) q ∧ gi (selL B st Z T) q < (n : Int)) := Lib.hid (fun q hq => by
    have h9 := HSM.out T _ (gi_mem (selL B st Z T) q (by omega))
    exact ⟨h9.1, HBN.out _ h9.2⟩)
   have HTL := Lib.hid hlen
   obtain ⟨L, hL⟩ : ∃ L, selL B st Z T = L := ⟨_, rfl⟩
   have HTE := Lib.hid hL
   rw [hL] at HLN HLL hO
   clear hL
   have HRP := Lib.hid (Own.rd hO)
   clear hlen hor hO
   go_wp2_with (first
    | (go_at_call 61; refine (HCO.out _ HX1.out).mono ?_; rintro en w2 ⟨rfl, rfl⟩)
    | (at_make; refine list_of rfl fun K hK => wp_mk (n := e) _ _ 28 rfl el53 rfl rfl (by omega) (by unfold maxLen; omega) ?_
       intro Am w3 hO3 hB3 hA
       have HO3 := Lib.hid hO3
       have HA := Lib.hid hA
       have HB3 := Lib.hid hB3
       clear hO3 hB3 hA
       refine hK _ _ ?_
       clear hK K))
   go_loopw [52] (fun i wr => MtI xs L e Am w1 i wr) (fun i _ => e - (intOf i).toNat)
   case atStart => exact ⟨0, List.replicate e 0, Nat.zero_le _, rfl, by have := HO3.out; unfold Own; simpa using this, fun q hq => by omega, HB3.out⟩
   case round =>
    obtain ⟨j, cur, hj, rfl, hO, hsame, hB⟩ := hrel
    have HB := Lib.hid hB
    have HS := Lib.hid hsame
    by_cases hlt : j < e
    · have hlj := HLL.out j hlt
      have hrp := Rdv.below HRP.out HB.out
      have hrx := Rdv.below HX1.out HB.out
      have cp1 := Rd.cell hrp hlt
      have ip1 := fun W => Rdv.ix hrp el34 hlt .i64 W
      obtain ⟨p, hp⟩ : ∃ p : Nat, gi L j = (p : Int) := ⟨(gi L j).toNat, by omega⟩
      have HP := Lib.hid hp
      rw [hp] at cp1 hlj
      have hpn : p < n := by omega
      have cx1 := Rd.cell hrx hpn
      have ix1 := fun W => Rdv.ix hrx el53 hpn .i64 W
      have hcu := Rd.cell (Own.rd hO) hlt
      have hfu := Ownv.frozen hO (by omega) j
      have hiu := fun W => Rdv.ix (Own.rd hO) el53 hlt .i64 W
      obtain ⟨x, hxe⟩ : ∃ x, gi xs p = x := ⟨_, rfl⟩
      have HXE := Lib.hid hxe
      rw [hxe] at cx1
      have HST := Lib.hid (Own.set_ hO hlt x)
      have hbA := (Ownv.blk_ge hO (by omega)).1
      have HB2 := Lib.hid (hB.grown (Own.set_ hO hlt x).2 hB.size (fun k e => by cases e; exact hbA))
      have hcl := (Own.rd hO).len
      clear hO hB hsame hp hxe hlj
      go_wp2
      go_roundw
      case rel => exact ⟨j + 1, cur.set j x, by omega, by go_num, HST.out.1, lt_succ_cases (fun q hq => by rw [gi_set _ _ _ _ (by omega), if_neg (by omega)]; exact HS.out q hq) (by rw [gi_set _ _ _ _ (by omega), if_pos rfl, HP.out, ← HXE.out]; rfl), HB2.out⟩
      case measure => simp [intOf]; omega
    · obtain rfl : j = e := by omega
      have hle := (Own.rd hO).len
      have HLE := Lib.hid (show cur = L.map fun p => gi xs p.toNat from by
       have hL := HLN.out
       have hml : (L.map fun p => gi xs p.toNat).length = L.length := List.length_map ..
       refine ext_gi (by omega) fun q hq => ?_
       rw [hsame q (by omega), gi_eq (L.map fun p => gi xs p.toNat) q (by omega), List.getElem_map, gi_eq L q (by omega)])
      have HO9 := Lib.hid (Ownv.mono hO (show w.heap.size ≤ w1.heap.size from HB1.out.size))
      clear hO hB hsame hle
      go_wp2
      go_ret2
      refine ⟨HB1.out.trans (HB.out.mono HB1.out.size), .inr ⟨HOR.out, Am, j, T, HTL.out, rfl, HA.out, ?_⟩⟩
      have h9 := HO9.out
      rw [HLE.out] at h9
      rw [HTE.out]
      exact h9
end Go.Proofs.YtkdfefpnhaebfaaGreat.Cr
namespace Go.Proofs.YtkdfefpnhaebfaaGreat.Cr
open Go.RowKit Go.Shelf
theorem sxN_le2 (N x : Nat) : sxN N x ≤ 2 := by
 unfold sxN
 split <;> omega
theorem vX_bd (k f x : Nat) : vX k f x < ((3 * (k + 4) : Nat) : Int) := by
 unfold vX
 have h1 := (ordV_bd (d := k + 4) (s := sxN (nB k) x) (k := jxN (nB k) x) (by omega)).2
 have h2 := Nat.mul_le_mul_right (k + 4) (sxN_le2 (nB k) x)
 generalize ordV (k + 4) (sxN (nB k) x) (jxN (nB k) x) = v at *
 generalize sxN (nB k) x = s at *
 unfold elV
 generalize s * (k + 4) = m at *
 split <;> omega
theorem bufL_bd (k f Z : Nat) : ∀ x, x ∈ (bufL k f).take Z → x < ((3 * (k + 4) : Nat) : Int) := by
 intro x hx
 have h := List.mem_of_mem_take hx
 unfold bufL bufT at h
 obtain ⟨j, -, rfl⟩ := List.mem_map.1 h
 exact vX_bd k f j
theorem match_ok (A : Option Addr) (c : Nat) (xs : List Int) (k f rv e : Nat) (lim : Int) (w : World) (hx : Rd .u8 w A (3 * (k + 4)) c xs) (hv : ValidB xs = true) (h1 : 40 ≤ k) (h2 : k ≤ 6144) (hf : f < k) (hl : 1 ≤ lim) (hrv : rv ≤ 3) (he : e ≤ 131072) :
 Calls Tryz.prog 32 #[.slice A (3 * (k + 4)) c, .int .i64 f, .int .i64 lim, .int .i64 rv, .int .i64 e] w (MtPost xs ((bufL k f).take (szB k lim)) (stS k (szB k lim) rv) (szB k lim) e w) := by
 have hzb := szB_bd k hl
 refine match_any A _ c xs k f rv e lim w hx hv rfl h1 h2 hf hl hrv he (bufL_bd k f _) hzb.1 ?_
 rw [List.length_take, show (bufL k f).length = 3 * nB k from by unfold bufL; exact bufT_len _ _ _]
 omega
end Go.Proofs.YtkdfefpnhaebfaaGreat.Cr
namespace Go.Proofs.YtkdfefpnhaebfaaGreat
open Go.RowKit
attribute [local go_sem] Oper.semAt_some
set_option maxRecDepth 100000
set_option maxHeartbeats 1000000
structure DmS (W : World) (base D k f : Nat) (lim : Int) (V : Option Addr) (vc : Nat) (vs : List Int) (cnt : Int) : Prop where
 b : Blk W D 157 [.int .i64 (k : Int), .int .i64 (f : Int), .int .i64 lim, .slice V (3 * (k + 4)) vc, .int .i64 cnt]
 v : Own .i64 3 W base V (3 * (k + 4)) vc vs
 d : base ≤ D
def NwX (k f : Nat) (lim : Int) (w1 : World) (v6 v7 : Value) (wx : World) : Prop := v7 = .int .i64 0 ∧ ∃ D V, v6 = .pointer (some ⟨D, 0, none⟩) ∧ DmS wx w1.heap.size D k f lim V (3 * (k + 4)) (frL k f) 0 ∧ Below w1.heap.size w1 wx
theorem new_ok (k f : Nat) (lim : Int) (w : World) (h1 : 40 ≤ k) (h2 : k ≤ 6144) (hf : f < k) (hl : 1 ≤ lim) :
 Calls Tryz.prog 70 #[.int .i64 (k : Int), .int .i64 (f : Int), .int .i64 lim] w fun e w' => ∃ D V, e = .returned (.tuple #[.pointer (some ⟨D, 0, none⟩), .int .i64 0]) ∧ DmS w' w.heap.size D k f lim V (3 * (k + 4)) (frL k f) 0 ∧ Below w.heap.size w w' := by
 have HU := Lib.hid (Cr.usable_ok k f lim w h1 h2 hf hl)
 have HFR := Lib.hid (fun W => fresh_any k f lim W h2 hf)
 clear h1 h2 hf hl
 go_enter Tryz.func70, Tryz.ntmps70
 go_wp2_with fail
 refine HU.out.mono ?_
 rintro e w1 ⟨rfl, hB⟩
 have HB1 := Lib.hid hB
 clear hB
 go_wp2_with fail
 have hx : Blk (w1.alloc (.cells #[.int .i64 (k : Int), .int .i64 (f : Int), .int .i64 lim] 155)) w1.heap.size 155 [.int .i64 (k : Int), .int .i64 (f : Int), .int .i64 lim] := Blk.new w1 [.int .i64 (k : Int), .int .i64 (f : Int), .int .i64 lim] _ rfl
 have hq := (Below.refl w1.heap.size w1).alloc (Nat.le_refl _) (.cells #[.int .i64 (k : Int), .int .i64 (f : Int), .int .i64 lim] 155)
 have HB2 := Lib.hid (HB1.out.trans (hq.mono HB1.out.size))
 generalize w1.alloc (.cells #[.int .i64 (k : Int), .int .i64 (f : Int), .int .i64 lim] 155) = w2 at *
 generalize w1.heap.size = BX at *
 have HS : Hid (Blk w2.drew BX 155 [.int .i64 (k : Int), .int .i64 (f : Int), .int .i64 lim]) := Lib.hid hx
 clear hx hq
 go_cut [6, 7] from 25 to 29 (fun v6 v7 wx => NwX k f lim w2 v6 v7 wx)
 case first =>
  refine Q_start (fun W => Blk W BX 155 [.int .i64 (k : Int), .int .i64 (f : Int), .int .i64 lim]) 4 7 ?_
  refine Q_T 0 25 1 (.agg #[.int .i64 (k : Int), .int .i64 (f : Int), .int .i64 lim]) [3] rfl HS.out (yieldsIf_load_mid rfl 155 (.tmp 10) rfl BX (0) rfl [.int .i64 (k : Int), .int .i64 (f : Int), .int .i64 lim] _ (fun W hS => fun q v hv => Blk.cell hS (by rw [Nat.zero_add]; exact hv)) Tryz.underlying155 rfl (by rw [info3i]; rfl)) ?_
  simp only [z0, z1, z2]
  refine Q_T 1 26 3 (.agg #[.int .i64 (k : Int), .int .i64 (f : Int), .int .i64 lim]) [3, 2] rfl HS.out (yieldsIf_load_mid rfl 155 (.tmp 10) rfl BX (0) rfl [.int .i64 (k : Int), .int .i64 (f : Int), .int .i64 lim] _ (fun W hS => fun q v hv => Blk.cell hS (by rw [Nat.zero_add]; exact hv)) Tryz.underlying155 rfl (by rw [info3i]; rfl)) ?_
  simp only [z0, z1, z2]
  refine Q_1S 2 7 rfl (fun K hK => ?_)
  go_simp
  refine (HFR.out w2.drew).mono ?_
  rintro e w3 ⟨A, rfl, hO, hB⟩
  have HO := Lib.hid (show Own .i64 3 w3 w2.heap.size A (3 * (k + 4)) (3 * (k + 4)) (frL k f) from hO)
  have HB3 : Hid (Below w2.heap.size w2 w3) := Lib.hid ((Below.refl _ w2).drew.trans hB)
  have HS3 := Lib.hid (HS.out.below hB)
  clear hO hB
  refine hK _ _ HS3.out ?_
  clear hK K
  refine Q_W 3 28 15 (.agg #[.int .i64 (k : Int), .int .i64 (f : Int), .int .i64 lim, .slice A (3 * (k + 4)) (3 * (k + 4)), .int .i64 0]) rfl HS3.out ?_
  simp only [z0, z1, z2]
  have HF : Hid (NwX k f lim w2 (.pointer (some ⟨w3.heap.size, 0, none⟩)) (.int .i64 0) (w3.alloc (.cells #[.int .i64 (k : Int), .int .i64 (f : Int), .int .i64 lim, .slice A (3 * (k + 4)) (3 * (k + 4)), .int .i64 0] 157))) := Lib.hid ⟨rfl, w3.heap.size, A, rfl, ⟨Blk.new w3 [.int .i64 (k : Int), .int .i64 (f : Int), .int .i64 lim, .slice A (3 * (k + 4)) (3 * (k + 4)), .int .i64 0] _ rfl, Ownv.alloc HO.out _, HB3.out.size⟩, HB3.out.alloc HB3.out.size _⟩
  refine Q_1 4 31 rfl (fun K hK => ?_)
  go_simp
  refine hK _ _ ?_
  clear hK K
  refine Q_1 5 63 rfl (fun K hK => ?_)
  go_simp
  refine hK _ _ ?_
  clear hK K
  refine Q_1 6 127 rfl (fun K hK => ?_)
  go_simp
  refine hK _ _ ?_
  clear hK K
  refine Q_end ?_
  go_wp2_with fail
  go_meet
  exact HF.out
 case rest =>
  obtain ⟨rfl, D, V, rfl, hD, hB⟩ := hcut
  have HD := Lib.hid hD
  have HBX := Lib.hid (HB2.out.trans (hB.mono HB2.out.size))
  clear hD hB
  go_wp2
  go_ret2
  exact ⟨D, V, rfl, ⟨HD.out.b, Ownv.mono HD.out.v HB2.out.size, Nat.le_trans HB2.out.size HD.out.d⟩, HBX.out⟩
section
variable {W : World} {base D k f : Nat} {lim : Int} {V : Option Addr} {vc : Nat} {vs : List Int} {cnt : Int}
theorem DmS.ne (h : DmS W base D k f lim V vc vs cnt) : V ≠ none := own_ne3 h.v (q := 0) (by omega)
theorem dnone_any (h : DmS W base D k f lim V vc vs cnt) : Calls Tryz.prog 90 #[.pointer (some ⟨D, 0, none⟩)] W fun e w' => e = .returned (.bool false) ∧ W = w' := by
 have c3 := h.b.cell (j := 3) (v := .slice V (3 * (k + 4)) vc) rfl
 have hV := h.ne
 cases V with
 | none => exact absurd rfl hV
 | some a =>
   have e1 := fun W => Lib.run_eql_slice_nil (P := Tryz.prog) W 39 3 (some a) (3 * (k + 4)) vc 0 0 el22.u
   clear h hV
   go_enter Tryz.func90, Tryz.ntmps90
   go_wp2
   go_ret
   exact ⟨rfl, rfl⟩
theorem values_any (h : DmS W base D k f lim V vc vs cnt) (hk : k ≤ 6144) : Calls Tryz.prog 74 #[.pointer (some ⟨D, 0, none⟩)] W fun e w' => ∃ A c, e = .returned (.slice A (3 * (k + 4)) c) ∧ Own .i64 3 w' W.heap.size A (3 * (k + 4)) c vs ∧ Below W.heap.size W w' := by
 have c3 := h.b.cell (j := 3) (v := .slice V (3 * (k + 4)) vc) rfl
 have HN := Lib.hid (dnone_any h)
 have HC := Lib.hid (cloneI_any V (3 * (k + 4)) vc vs W (Own.rd h.v) (by omega))
 clear h
 go_enter Tryz.func74, Tryz.ntmps74
 go_wp2_with fail
 refine HN.out.mono ?_
 rintro e w1 ⟨rfl, rfl⟩
 go_wp2_with fail
 refine HC.out.mono ?_
 rintro e w1 ⟨A, c, rfl, hO, hB⟩
 have HO := Lib.hid hO
 have HB := Lib.hid hB
 clear hO hB
 go_wp2
 go_ret
 exact ⟨A, c, rfl, HO.out, HB.out⟩
end
theorem add1_any (a b : Int) (w : World) : Calls Tryz.prog 119 #[.int .i64 a, .int .i64 b] w fun e w' => e = .returned (.int .i64 (addI a b)) ∧ Below w.heap.size w w' := by
 have HA := Lib.hid (sadd_any a b w)
 generalize addI a b = z at *
 go_enter Tryz.func119, Tryz.ntmps119
 go_wp2_with fail
 refine HA.out.mono ?_
 rintro e w1 ⟨rfl, hB⟩
 have HB := Lib.hid hB
 clear hB
 go_wp2
 go_ret
 exact ⟨rfl, HB.out⟩
def cmbL (at' l vs : List Int) : Nat → List Int
 | 0 => vs
 | j + 1 => (cmbL at' l vs j).set (gi at' j).toNat (addI (gi (cmbL at' l vs j) (gi at' j).toNat) (gi l j))
theorem cmbL_len (at' l vs : List Int) : ∀ j, (cmbL at' l vs j).length = vs.length
 | 0 => rfl
 | j + 1 => by show (List.set _ _ _).length = _; rw [List.length_set]; exact cmbL_len at' l vs j
def CbI (w : World) (base : Nat) (V : Option Addr) (N vc m : Nat) (ps l vs : List Int) (i : Value) (wr : World) : Prop := ∃ j : Nat, j ≤ m ∧ i = .int .i64 (j : Int) ∧ Own .i64 3 wr base V N vc (cmbL ps l vs j) ∧ w.grownBy wr (some (blk V))
theorem combined_any (V : Option Addr) (N vc base : Nat) (vs : List Int) (A2 : Option Addr) (m c2 : Nat) (ps : List Int) (A3 : Option Addr) (c3 : Nat) (l : List Int) (w : World) (hv : Own .i64 3 w base V N vc vs) (hp : Rd .i64 w A2 m c2 ps) (hl : Rd .i64 w A3 m c3 l)
 (hn2 : A2 ≠ none → blk A2 ≠ blk V) (hn3 : A3 ≠ none → blk A3 ≠ blk V) (hb : ∀ j, j < m → ∃ p : Nat, gi ps j = (p : Int) ∧ p < N) (hm : m ≤ 200000) :
 Calls Tryz.prog 118 #[.slice V N vc, .slice A2 m c2, .slice A3 m c3, .func (.func 119) #[] #[]] w fun e w' => (∃ v, e = .returned v) ∧ Own .i64 3 w' base V N vc (cmbL ps l vs m) ∧ w.grownBy w' (some (blk V)) := by
 have HV := Lib.hid hv
 have HP := Lib.hid hp
 have HL := Lib.hid hl
 have HN := Lib.hid (And.intro hn2 hn3)
 have HBD := Lib.hid hb
 have HAD0 := Lib.hid (fun a b W => add1_any a b W)
 clear hv hp hl hn2 hn3 hb
 go_enter Tryz.func118, Tryz.ntmps118
 go_wp2_with fail
 go_loopw [12] (fun i wr => CbI w base V N vc m ps l vs i wr) (fun i _ => m - (intOf i).toNat)
 case atStart => exact ⟨0, Nat.zero_le _, rfl, HV.out, World.grownBy.refl _ _⟩
 case round =>
  obtain ⟨j, hj, rfl, hO, hG⟩ := hrel
  have HO := Lib.hid hO
  have HG := Lib.hid hG
  by_cases hlt : j < m
  · obtain ⟨p, hpe, hpn⟩ := HBD.out j hlt
    have hr2 := Rdv.grown HP.out hG (fun hA => by have := HN.out.1 hA; simpa using this)
    have hr3 := Rdv.grown HL.out hG (fun hA => by have := HN.out.2 hA; simpa using this)
    have ca := Rd.cell hr2 hlt
    have cx := Rd.cell hr3 hlt
    rw [hpe] at ca
    have ia := fun W => Rdv.ix hr2 el22 hlt .i64 W
    have ix := fun W => Rdv.ix hr3 el22 hlt .i64 W
    have co := Rd.cell (Own.rd hO) hpn
    have io := fun W => Rdv.ix (Own.rd hO) el22 hpn .i64 W
    have hvc : 0 < vc := by have := Rdv.le (Own.rd hO); omega
    have HCE : Hid (cmbL ps l vs (j + 1) = (cmbL ps l vs j).set p (addI (gi (cmbL ps l vs j) p) (gi l j))) := Lib.hid (by show List.set _ _ _ = _; rw [hpe, Int.toNat_natCast])
    have HS : Hid (wr.drew.cell? (adr A2 j) = some (.int .i64 (p : Int)) ∧ wr.drew.cell? (adr V p) = some (.int .i64 (gi (cmbL ps l vs j) p))) := Lib.hid ⟨ca, co⟩
    generalize gi (cmbL ps l vs j) p = old at *
    generalize gi l j = x at *
    have HAD := Lib.hid (HAD0.out old x)
    generalize addI old x = z at *
    clear hO hG hr2 hr3 hpe ca co
    go_wp2_with fail
    refine Q_start (fun W => W.cell? (adr A2 j) = some (.int .i64 (p : Int)) ∧ W.cell? (adr V p) = some (.int .i64 old)) 16 17 ?_
    refine Q_W 0 17 1 (.slice V N vc) rfl HS.out ?_
    simp only [z0, z1, z2]
    refine Q_W 1 18 3 (.slice A2 m c2) rfl HS.out ?_
    simp only [z0, z1, z2]
    refine Q_W 2 19 7 (.int .i64 (j : Int)) rfl HS.out ?_
    simp only [z0, z1, z2]
    refine Q_W 3 20 15 (.pointer (some (adr A2 j))) rfl HS.out ?_
    simp only [z0, z1, z2]
    refine Q_T 4 21 31 (.int .i64 (p : Int)) [15] rfl HS.out (.inl ⟨by rfl, fun W hS => by obtain ⟨s0, s1⟩ := hS; go_simp⟩) ?_
    simp only [z0, z1, z2]
    refine Q_W 5 22 63 (.func (.func 119) #[] #[]) rfl HS.out ?_
    simp only [z0, z1, z2]
    refine Q_W 6 23 127 (.slice V N vc) rfl HS.out ?_
    simp only [z0, z1, z2]
    refine Q_W 7 24 255 (.slice A2 m c2) rfl HS.out ?_
    simp only [z0, z1, z2]
    refine Q_W 8 25 511 (.int .i64 (j : Int)) rfl HS.out ?_
    simp only [z0, z1, z2]
    refine Q_W 9 26 1023 (.pointer (some (adr A2 j))) rfl HS.out ?_
    simp only [z0, z1, z2]
    refine Q_T 10 27 2047 (.int .i64 (p : Int)) [14, 12, 11] rfl HS.out (.inl ⟨by rfl, fun W hS => by obtain ⟨s0, s1⟩ := hS; go_simp⟩) ?_
    simp only [z0, z1, z2]
    refine Q_W 11 28 4095 (.pointer (some (adr V p))) rfl HS.out ?_
    simp only [z0, z1, z2]
    refine Q_T 12 29 8191 (.int .i64 old) [14] rfl HS.out (.inl ⟨by rfl, fun W hS => by obtain ⟨s0, s1⟩ := hS; go_simp⟩) ?_
    simp only [z0, z1, z2]
    refine Q_W 13 30 16383 (.int .i64 x) rfl HS.out ?_
    simp only [z0, z1, z2]
    refine Q_1S 14 32767 rfl (fun K hK => ?_)
    go_simp
    refine (HAD.out wr.drew).mono ?_
    rintro e w3 ⟨rfl, hB⟩
    have HB3 : Hid (Below wr.heap.size wr w3) := Lib.hid ((Below.refl _ wr).drew.trans hB)
    have HO3 := Lib.hid (Ownv.below HO.out HB3.out)
    have hS3 := Own.set_ HO3.out hpn z
    have hf3 := Ownv.frozen HO3.out hvc p
    have hc3 := Rd.cell (Own.rd HO3.out) hpn
    have HS3 := Lib.hid hS3
    clear hB hS3
    have HSw : Hid (w3.cell? (adr A2 j) = some (.int .i64 (p : Int)) ∧ w3.cell? (adr V p) = some (.int .i64 old)) := Lib.hid ⟨cell_below (w := wr) HS.out.1 HB3.out, cell_below (w := wr) HS.out.2 HB3.out⟩
    refine hK _ _ HSw.out ?_
    clear hK K
    refine Q_W 15 32 65535 (.pointer (some (adr V p))) rfl HSw.out ?_
    simp only [z0, z1, z2]
    refine Q_1 16 131071 rfl (fun K hK => ?_)
    go_simp
    refine hK _ _ ?_
    clear hK K
    refine Q_end ?_
    go_wp2_with fail
    go_roundw
    case rel => exact ⟨j + 1, by omega, by go_num, by rw [HCE.out]; exact HS3.out.1, grown_same (grown_of_below HG.out HB3.out) HS3.out.2⟩
    case measure => simp [intOf]; omega
  · obtain rfl : j = m := by omega
    clear hO hG
    go_wp2
    go_end0
    exact ⟨⟨_, rfl⟩, HO.out, HG.out⟩
end Go.Proofs.YtkdfefpnhaebfaaGreat
