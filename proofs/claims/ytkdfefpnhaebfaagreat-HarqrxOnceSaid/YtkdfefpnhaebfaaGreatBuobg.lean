/- Bundle. Conditions: none. -/
import Derived.Test.YtkdfefpnhaebfaaGreatBuobf
set_option linter.unusedVariables false
set_option linter.unusedSimpArgs false
namespace Go.Proofs.YtkdfefpnhaebfaaGreat.Cr
open Go.RowKit Go.Shelf
attribute [local go_sem] Oper.semAt_some
set_option maxRecDepth 100000
set_option maxHeartbeats 4000000
def filL (d s N n : Nat) : List Int := ordT d s n ++ List.replicate (N - n) 0
theorem filL_set {d s N n : Nat} (h : n < N) : (filL d s N n).set n (ordV d s n) = filL d s N (n + 1) := by
 unfold filL
 rw [List.set_append_right _ _ (by rw [ordT_len]; exact Nat.le_refl _), ordT_len, Nat.sub_self, ordT_succ, List.append_assoc]
 congr 1
 rw [show N - n = (N - (n + 1)) + 1 by omega, List.replicate_succ]
 rfl
theorem filL_all {d s N : Nat} : filL d s N N = ordT d s N := by simp [filL]
structure OrK (w : World) (base DB OB d s N : Nat) (A : Option Addr) (n : Nat) (W : World) : Prop where
 le : n ≤ N
 o : Own .i64 3 W base A N N (filL d s N n)
 x : Blk W OB 39 [.slice A N N]
 dd : Blk W DB 3 [.int .i64 d]
 bl : Below w.heap.size w W
theorem OrK.cl {w : World} {B base DB OB d s N : Nat} {A : Option Addr} (hA : A ≠ none → blk A < B) (hO : OB < B) (hD : DB < B) (hw : w.heap.size ≤ B) : Cl B (fun (pre : List (Int × Int)) W => OrK w base DB OB d s N A pre.length W) := fun pre W W' row h hg hr =>
 ⟨h.le, Ownv.grown h.o hg (fun hn => fun e => by have := hr _ e.symm; have := hA hn; omega), h.x.grown hg (fun e => by have := hr _ e.symm; omega), h.dd.grown hg (fun e => by have := hr _ e.symm; omega), h.bl.grown hg h.bl.size (fun k e => Nat.le_trans hw (hr k e))⟩
theorem OrK.next {w W : World} {base DB OB d s N : Nat} {A : Option Addr} {n : Nat} (h : OrK w base DB OB d s N A n W) (hn : n < N) (hO : blk A ≠ OB) (hD : blk A ≠ DB) (hw : w.heap.size ≤ blk A) {v : Int} (hv : ordV d s n = v) :
 KeepsOthers W (W.setCell (adr A n) (.int .i64 v)) ∧ KpB [blk A] W (W.setCell (adr A n) (.int .i64 v)) ∧ OrK w base DB OB d s N A (n + 1) (W.setCell (adr A n) (.int .i64 v)) := by
 have h2 := Own.set_ h.o hn v
 refine ⟨KeepsOthers.setCell _ _ _, KpB.set h2.2 (by simp), ⟨hn, ?_, h.x.grown h2.2 (fun e => hO (Option.some.inj e).symm), h.dd.grown h2.2 (fun e => hD (Option.some.inj e).symm), h.bl.grown h2.2 h.bl.size (fun k e => by cases e; exact hw)⟩⟩
 have h3 := h2.1
 rw [← hv, filL_set hn] at h3
 rw [hv] at h3
 exact h3
theorem mxV_max {d m : Nat} (hd : d ≤ 32 * rwS d) : max ((m : Int) - (((32 * rwS d : Nat) : Int) - (d : Int))) (-1) = mxV d m := by
 unfold mxV
 split
 · rw [Int.max_eq_right (by omega)]
 · rw [Int.max_eq_left (by omega)]; omega
theorem order_ok (d s : Nat) (w : World) (h1 : 1 ≤ d) (h2 : d ≤ 6148) (hs : s ≤ 2) : Calls Tryz.prog 212 #[.int .i64 d, .int .i64 s] w fun e w' => ∃ A, e = .returned (.tuple #[.slice A (32 * rwS d) (32 * rwS d), .int .i64 0]) ∧ Own .i64 3 w' w.heap.size A (32 * rwS d) (32 * rwS d) (ordL d s) ∧ Below w.heap.size w w' := by
 have hR := rwS_le h2
 have hR1 := rwS_pos h1
 have hge := rwS_ge d
 have HMX := Lib.hid (fun m => mxV_max (d := d) (m := m) hge)
 have HOF := Lib.hid (fun W => of_ok d s W h1 h2 hs)
 have HSQ := Lib.hid (fun IB SB sv bs W => ind_seq d s IB SB sv h1 h2 hs bs W)
 have HPL := Lib.hid (psO_len d s)
 have HPG := Lib.hid (psO_get d s)
 have HOV := Lib.hid (fun k => show ordV d s k = mxV d (mx0 d s (k / rwS d) (k % rwS d)) from rfl)
 have HXL := Lib.hid (fun c r (h : r < rwS d) => mx0_lt (d := d) (s := s) (c := c) h)
 have HL := Lib.hid (show ordL d s = ordT d s (32 * rwS d) from rfl)
 unfold OfPost at HOF
 generalize rwS d = R at *
 obtain ⟨N, hN⟩ : ∃ N, N = 32 * R := ⟨_, rfl⟩
 have hNI : IntKind.i64.wrap (32 * (R : Int)) = (N : Int) := by rw [IntKind.wrap_i64, hN]; push_cast; omega
 rw [← hN] at HMX HPL HL HXL hge ⊢
 have hN2 : N ≤ 6176 := by omega
 have hN1 : 1 ≤ N := by omega
 clear hN
 refine (callsIn_wide (n := 3)).1 ?_
 refine callsIn_of_wp_marks Tryz.func212 rfl trivial ?_
 simp only [Tryz.ntmps212, List.size_toArray, List.length_cons, List.length_nil, Nat.reduceAdd, Nat.reduceSub, Array.replicate_succ, Array.replicate_zero, List.push_toArray, List.append_toArray, List.nil_append, List.cons_append]
 refine wpIn_wide.2 ?_
 have hd0 := Blk.new w [.int .i64 d] 3 rfl
 have hb0 := bal (Below.refl _ w) (.cells [Value.int .i64 d].toArray 3)
 have HD0 := Lib.hid hd0
 have HB0 := Lib.hid hb0
 clear hd0 hb0
 go_wp2_with fail
 refine (HOF.out _).mono ?_
 rintro e w1 ⟨sv, SB, rfl, hV, hSB, hSB2, hone, hB1⟩
 have HV1 := Lib.hid hV
 have HD1 := Lib.hid (HD0.out.below hB1)
 have HB1 := Lib.hid (HB0.out.trans (hB1.mono HB0.out.size))
 have HSB := Lib.hid hSB2
 have HONE := Lib.hid hone
 clear hV hB1 hSB hSB2 HD0 HB0 HOF hone
 have hs0 : Blk (w1.alloc (.cells #[.int .i64 0, .nilFunc] 296)) w1.heap.size 296 [.int .i64 0, .nilFunc] := Blk.new w1 _ 296 rfl
 go_wp2_with (first
  | (refine strow (cs := [.int .i64 R, sv]) rfl 296 (.tmp 6) (.tmp 15) rfl rfl rfl hs0 rfl info138 (by intro v hv; simp at hv; rcases hv with rfl | rfl; rfl; exact HONE.out) ?_
     intro W2 g1 g2
     have HS2 := Lib.hid g1
     have hq := (Below.refl w1.heap.size w1).alloc (Nat.le_refl _) (.cells #[.int .i64 0, .nilFunc] 296)
     have HB2 := Lib.hid (hq.grown g2 hq.size (fun k hk => by cases hk; exact Nat.le_refl _))
     have c0 := g1.cell (j := 0) (v := .int .i64 R) rfl
     clear g1 g2 hs0 hq)
  | (at_make; refine list_of rfl fun K hK => wp_mk (n := N) _ _ 39 rfl el34 rfl rfl (by omega) (by unfold maxLen; omega) ?_
     intro A w3 hO3 hB3 hA
     have HO3 := Lib.hid hO3
     have HA := Lib.hid hA
     have HB23 := Lib.hid hB3
     have hs4 := (HS2.out.below hB3).alloc (.cells #[.slice A N N] 39)
     clear hO3 hB3 hA c0
     refine hK _ _ ?_
     clear hK K)
  | (refine ldrow (cs := [.int .i64 R, sv]) rfl 296 (.tmp 6) rfl rfl hs4 _ Tryz.underlying296 rfl info138 ?_))
 obtain ⟨w4, hw4⟩ : ∃ W, W = w3.alloc (.cells #[.slice A N N] 39) := ⟨_, rfl⟩
 have hB34 : Below w3.heap.size w3 w4 := by rw [hw4]; exact (Below.refl _ _).alloc (Nat.le_refl _) _
 have hx4 : Blk w4 w3.heap.size 39 [.slice A N N] := by rw [hw4]; exact Blk.new w3 _ 39 rfl
 have h14 : Below w1.heap.size w1 w4 := HB2.out.trans ((HB23.out.trans (hB34.mono HB23.out.size)).mono HB2.out.size)
 have HD4 := Lib.hid (HD1.out.below h14)
 have HV4 := Lib.hid (HV1.out.below h14)
 have HB4 := Lib.hid (HB1.out.trans (h14.mono HB1.out.size))
 have HX4 := Lib.hid hx4
 have HO4 := Lib.hid (Ownv.below HO3.out hB34)
 have hbA : W2.heap.size ≤ blk A ∧ blk A < w4.heap.size := (Ownv.blk_ge HO4.out (by omega))
 have hlo : w1.heap.size ≤ W2.heap.size := HB2.out.size
 have hOB : w3.heap.size < w4.heap.size := hx4.lt
 have hDB : w.heap.size < w1.heap.size := HD1.out.lt
 have hAOB : blk A ≠ w3.heap.size := by have := (Ownv.blk_ge HO3.out (by omega)).2; omega
 rw [← hw4]
 clear hw4 hB34 hx4 h14 hs4 HB2 HB23 HS2 HO3 HD1 HV1 HB1
 generalize w3.heap.size = OB at *
 refine (ind_any R sv w4 HONE.out).mono ?_
 rintro e w5 ⟨rfl, hI5, hB5⟩
 have HI5 := Lib.hid hI5
 have HK : Hid (OrK w W2.heap.size w.heap.size OB d s N A 0 w5) := Lib.hid ⟨Nat.zero_le _, Own.of_eq (Ownv.below HO4.out hB5) rfl (by simp [filL, ordT]), HX4.out.below hB5, HD4.out.below hB5, HB4.out.trans (hB5.mono HB4.out.size)⟩
 have HV5 := Lib.hid (HV4.out.below hB5)
 have hz5 : w4.heap.size < w5.heap.size := hI5.lt
 generalize w4.heap.size = IB at *
 have HSEQ := Lib.hid (HSQ.out IB SB sv [blk A] w5 HI5.out HV5.out (by simp; omega) (by have := HSB.out; simp; omega) (by intro b hb; simp at hb; subst hb; omega))
 have hwB := HK.out.bl.size
 clear hI5 hB5 HB4 HD4 HV4 HX4 HO4 HSQ HV5 HI5
 go_wp2_with fail
 refine (wpIn_wide (n := 3)).1 ?_
 refine' rangeD (w0 := w5) (gf := 257) (lb := #[.pointer (some ⟨IB, 0, none⟩)]) rfl (enters_of Tryz.func257 (by kernel_rfl) rfl) HSEQ.out KpB.trans (fun W l o o' hl h1 h2 => KpB.put o' h1 h2) (Below.refl _ _) (fun _ => rfl)
  (fun pre W => OrK w W2.heap.size w.heap.size OB d s N A pre.length W) (fun _ _ _ => False) (OrK.cl (fun _ => by omega) (by omega) (by omega) (by omega)) (fun _ _ _ _ _ h _ _ => h) HK.out _ ?assign ?body ?done ?stop
 case assign =>
  intro l x W K hK
  unfold encP
  gi_wp2
  exact hK
 case body =>
  rintro l pre x W hI ⟨hlt, rfl⟩
  rw [HPG.out]
  rw [HPL.out] at hlt
  have hov := HOV.out pre.length
  obtain ⟨m, hm⟩ : ∃ m, m = mx0 d s (pre.length / R) (pre.length % R) := ⟨_, rfl⟩
  rw [← hm] at hov ⊢
  have hmN : m < N := by rw [hm]; exact HXL.out _ _ (Nat.mod_lt _ (by omega))
  clear hm
  have hmx := HMX.out m
  rw [← hov] at hmx
  have hc := Rd.cell (Own.rd hI.o) hlt
  have hf := Ownv.frozen hI.o (by omega) pre.length
  have hix := fun W => Rdv.ix (Own.rd hI.o) el34 hlt .i64 W
  have cO := hI.x.cell (j := 0) (v := .slice A N N) rfl
  have cD := hI.dd.cell (j := 0) (v := .int .i64 d) rfl
  have HI := Lib.hid hI
  have HLT := Lib.hid hlt
  have HOVM := Lib.hid hov
  clear hI hov
  have hlen : ∀ x : Int × Int, (pre ++ [x]).length = pre.length + 1 := fun x => by simp
  by_cases hmd : m + d + 1 < N
  · have hv : ordV d s pre.length = -1 := by rw [← hmx]; exact Int.max_eq_right (by omega)
    have HNX := Lib.hid (HI.out.next HLT.out (v := -1) hAOB (by omega) (by omega) hv)
    clear hmx hv HOVM
    gi_wp2
    exact ⟨HNX.out.1, HNX.out.2.1, by have h9 := HNX.out.2.2; rw [← hlen ((pre.length : Int), (m : Int))] at h9; exact h9⟩
  · have hv : ordV d s pre.length = (m : Int) - ((N : Int) - (d : Int)) := by rw [← hmx]; exact Int.max_eq_left (by omega)
    have HNX := Lib.hid (HI.out.next HLT.out (v := (m : Int) - ((N : Int) - (d : Int))) hAOB (by omega) (by omega) hv)
    clear hmx hv HOVM
    gi_wp2
    exact ⟨HNX.out.1, HNX.out.2.1, by have h9 := HNX.out.2.2; rw [← hlen ((pre.length : Int), (m : Int))] at h9; exact h9⟩
 case done =>
  rintro D ys W hD rfl hI hK
  rw [HPL.out] at hI
  have cO := hI.x.cell (j := 0) (v := .slice A N N) rfl
  have hO := hI.o
  rw [filL_all, ← HL.out] at hO
  have HO9 := Lib.hid (Ownv.mono (hO.grown (grownBy_putObj' W D (.deferred none)) (fun _ e => by have := Option.some.inj e; omega)) (show w.heap.size ≤ W2.heap.size by omega))
  have HB9 := Lib.hid (hI.bl.grown (grownBy_putObj' W D (.deferred none)) hI.bl.size (fun k e => by cases e; omega))
  clear hO
  go_wp2
  refine ⟨by simp, .inl ⟨_, _, rfl, run_takeDeferred hK, ?_⟩⟩
  exact ⟨_, results_tmp2 rfl _ _ _, A, rfl, HO9.out, HB9.out⟩
 case stop =>
  rintro D c pre W hD _ hx hK
  exact hx.elim
end Go.Proofs.YtkdfefpnhaebfaaGreat.Cr
namespace Go.Proofs.YtkdfefpnhaebfaaGreat.Cr
open Go.RowKit
def elV (k f s : Nat) (i : Int) : Int := if i < 0 ∨ (s < 2 ∧ i < (f : Int)) then -1 else ((s * (k + 4) : Nat) : Int) + i
def sxN (N x : Nat) : Nat := if x < N then 0 else (x - N) % 2 + 1
def jxN (N x : Nat) : Nat := if x < N then x else (x - N) / 2
def nB (k : Nat) : Nat := 32 * rwS (k + 4)
def vX (k f x : Nat) : Int := elV k f (sxN (nB k) x) (ordV (k + 4) (sxN (nB k) x) (jxN (nB k) x))
def bufT (k f n : Nat) : List Int := (List.range n).map (vX k f)
def bufL (k f : Nat) : List Int := bufT k f (3 * nB k)
theorem bufT_len (k f n : Nat) : (bufT k f n).length = n := by simp [bufT]
theorem bufT_gi (k f n x : Nat) (h : x < n) : gi (bufT k f n) x = vX k f x := by
 rw [gi_eq _ _ (by rw [bufT_len]; exact h)]; simp [bufT]
theorem nB_le {k : Nat} (h : k ≤ 6144) : nB k ≤ 6176 := by unfold nB; have := rwS_le (d := k + 4) (by omega); omega
theorem nB_pos {k : Nat} : 1 ≤ nB k := by unfold nB; have := rwS_pos (d := k + 4) (by omega); omega
theorem mxV_bd {d m : Nat} (hm : m < 32 * rwS d) : -1 ≤ mxV d m ∧ mxV d m < (d : Int) := by
 unfold mxV
 have := rwS_ge d
 split <;> omega
theorem ordV_bd {d s k : Nat} (hd : 1 ≤ d) : -1 ≤ ordV d s k ∧ ordV d s k < (d : Int) := mxV_bd (mx0_lt (Nat.mod_lt _ (by have := rwS_pos hd; omega)))
def usC (xs : List Int) : Nat := (xs.filter fun x => decide (0 ≤ x)).length
theorem usC_snoc (xs : List Int) (x : Int) : usC (xs ++ [x]) = usC xs + if 0 ≤ x then 1 else 0 := by
 unfold usC
 rw [List.filter_append, List.length_append]
 by_cases h : 0 ≤ x
 · simp [h]
 · simp [h]
theorem usC_le (xs : List Int) : usC xs ≤ xs.length := List.length_filter_le _ _
theorem cell_below {w w' : World} {p : Addr} {v : Value} (hc : w.cell? p = some v) (h : Below w.heap.size w w') : w'.cell? p = some v := (h.cell (World.block_lt_of_cell? w _ hc)).trans hc
theorem ordL_gi (d s j : Nat) (h : j < 32 * rwS d) : gi (ordL d s) j = ordV d s j := by
 unfold ordL
 rw [gi_eq _ _ (by rw [ordT_len]; exact h)]; simp [ordT]
def szB (k : Nat) (lim : Int) : Nat := if lim ≤ ((3 * nB k : Nat) : Int) then lim.toNat else 3 * nB k
set_option maxRecDepth 100000
def pS (N s j : Nat) : Nat := if s = 0 then j else N + 2 * j + s - 1
theorem pS_lt {N s j : Nat} (hs : s ≤ 2) (hj : j < N) : pS N s j < 3 * N := by unfold pS; split <;> omega
theorem pS_iff {N s j x : Nat} (hs : s ≤ 2) (hj : j < N) (hx : x < 3 * N) : (sxN N x = s ∧ jxN N x = j) ↔ pS N s j = x := by
 unfold sxN jxN pS
 split <;> split <;> omega
theorem jxN_lt {N x : Nat} (hx : x < 3 * N) : jxN N x < N := by unfold jxN; split <;> omega
theorem sxN_le (N x : Nat) : sxN N x ≤ 2 := by unfold sxN; split <;> omega
def fuV (k f s j x : Nat) : Int := if sxN (nB k) x < s ∨ (sxN (nB k) x = s ∧ jxN (nB k) x < j) then vX k f x else 0
def fulS (k f s j : Nat) : List Int := (List.range (3 * nB k)).map (fuV k f s j)
theorem fulS_len (k f s j : Nat) : (fulS k f s j).length = 3 * nB k := by simp [fulS]
theorem fulS_gi (k f s j x : Nat) (h : x < 3 * nB k) : gi (fulS k f s j) x = fuV k f s j x := by
 rw [gi_eq _ _ (by rw [fulS_len]; exact h)]; simp [fulS]
theorem fulS_set {k f s j : Nat} (hs : s ≤ 2) (hj : j < nB k) : (fulS k f s j).set (pS (nB k) s j) (elV k f s (ordV (k + 4) s j)) = fulS k f s (j + 1) := by
 refine ext_gi (by simp [fulS_len]) fun x hx => ?_
 have hx' : x < 3 * nB k := by simpa [fulS_len] using hx
 rw [gi_set _ _ _ _ (by rw [fulS_len]; exact pS_lt hs hj), fulS_gi _ _ _ _ _ hx', fulS_gi _ _ _ _ _ hx']
 have hi := pS_iff hs hj hx'
 by_cases e : pS (nB k) s j = x
 · rw [if_pos e]
   obtain ⟨e1, e2⟩ := hi.2 e
   unfold fuV
   rw [if_pos (.inr ⟨e1, by omega⟩)]
   unfold vX
   rw [e1, e2]
 · rw [if_neg e]
   have h9 : ¬ (sxN (nB k) x = s ∧ jxN (nB k) x = j) := fun h => e (hi.1 h)
   unfold fuV
   by_cases h8 : sxN (nB k) x < s ∨ (sxN (nB k) x = s ∧ jxN (nB k) x < j)
   · rw [if_pos h8, if_pos (by omega)]
   · rw [if_neg h8, if_neg (by omega)]
theorem fulS_next (k f s : Nat) : fulS k f s (nB k) = fulS k f (s + 1) 0 := by
 refine ext_gi (by rw [fulS_len, fulS_len]) fun x hx => ?_
 rw [fulS_len] at hx
 rw [fulS_gi _ _ _ _ _ hx, fulS_gi _ _ _ _ _ hx]
 have := jxN_lt hx
 unfold fuV
 by_cases h8 : sxN (nB k) x < s + 1
 · rw [if_pos (by omega), if_pos (.inl h8)]
 · rw [if_neg (by omega), if_neg (by omega)]
theorem fulS_all (k f : Nat) : fulS k f 3 0 = bufL k f := by
 refine ext_gi (by rw [fulS_len, bufL, bufT_len]) fun x hx => ?_
 rw [fulS_len] at hx
 have := sxN_le (nB k) x
 rw [fulS_gi _ _ _ _ _ hx, bufL, bufT_gi _ _ _ _ hx]
 unfold fuV
 rw [if_pos (.inl (by omega))]
theorem fulS_none (k f : Nat) : fulS k f 0 0 = List.replicate (3 * nB k) 0 := by
 refine List.ext_getElem (by simp [fulS]) fun x h1 h2 => ?_
 simp [fulS, fuV]
theorem at0_any (s d SB DB : Nat) (i : Int) (w : World) (hS : Blk w SB 3 [.int .i64 s]) (hD : Blk w DB 3 [.int .i64 d]) (hs : s ≤ 2) (hd : d ≤ 6148) (h1 : 0 ≤ i) (h2 : i ≤ 7000) : Calls Tryz.prog 210 #[.int .i64 i, .pointer (some ⟨SB, 0, none⟩), .pointer (some ⟨DB, 0, none⟩)] w fun e w' => e = .returned (.int .i64 (((s * d : Nat) : Int) + i)) ∧ w = w' := by
 have c1 := hS.cell (j := 0) (v := .int .i64 s) rfl
 have c2 := hD.cell (j := 0) (v := .int .i64 d) rfl
 have hm : (s : Int) * (d : Int) = ((s * d : Nat) : Int) := by push_cast; rfl
 have hb : s * d ≤ 12296 := by have := Nat.mul_le_mul hs hd; omega
 generalize s * d = P at *
 go_enter Tryz.func210, Tryz.ntmps210
 go_wp2
 go_ret
 exact ⟨rfl, by trivial⟩
theorem at_lo {k f s : Nat} {i : Int} (h1 : 0 ≤ i) (h : s < 2 → (f : Int) ≤ i) : ((s * (k + 4) : Nat) : Int) + i = elV k f s i := by
 unfold elV
 rw [if_neg (by omega)]
theorem at_hi {k f s : Nat} {i : Int} (h : i < (f : Int)) (hs : s < 2) : elV k f s i = -1 := by
 unfold elV
 rw [if_pos (.inr ⟨hs, h⟩)]
theorem at1_any (k f s WB PB SB DB : Nat) (R Z : Value) (i : Int) (w : World) (hW : Blk w WB 174 [.int .i64 k, .int .i64 f, R, Z]) (hP : Blk w PB 88 [.func (.func 210) #[] #[.pointer (some ⟨SB, 0, none⟩), .pointer (some ⟨DB, 0, none⟩)]]) (hS : Blk w SB 3 [.int .i64 s]) (hD : Blk w DB 3 [.int .i64 ((k + 4 : Nat) : Int)]) (hs : s < 2) (hk : k ≤ 6144) (h1 : 0 ≤ i) (h2 : i ≤ 7000) :
 Calls Tryz.prog 211 #[.int .i64 i, .pointer (some ⟨WB, 0, none⟩), .pointer (some ⟨PB, 0, none⟩)] w fun e w' => e = .returned (.int .i64 (elV k f s i)) ∧ w = w' := by
 have c1 := hW.cell (j := 1) (v := .int .i64 f) rfl
 by_cases h : i < (f : Int)
 · rw [at_hi h hs]
   have q : decide (i < (f : Int)) = true := by simp [h]
   go_enter Tryz.func211, Tryz.ntmps211
   go_wp2
   go_ret
   exact ⟨rfl, by trivial⟩
 · have q : decide (i < (f : Int)) = false := by simp; omega
   have c2 := hP.cell (j := 0) (v := .func (.func 210) #[] #[.pointer (some ⟨SB, 0, none⟩), .pointer (some ⟨DB, 0, none⟩)]) rfl
   have HA := Lib.hid (at0_any s (k + 4) SB DB i w hS hD (by omega) (by omega) h1 h2)
   rw [at_lo (k := k) (f := f) (s := s) h1 (fun _ => by omega)] at HA
   go_enter Tryz.func211, Tryz.ntmps211
   go_wp2_with fail
   refine HA.out.mono ?_
   rintro e w' ⟨rfl, rfl⟩
   go_wp2
   go_ret
   exact ⟨rfl, by trivial⟩
end Go.Proofs.YtkdfefpnhaebfaaGreat.Cr
