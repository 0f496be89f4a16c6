/-
  Rate matching's buffer, the shares, Split, both texts; known. Condition: slices that lie in memory.
-/
import Derived.Test.YtcbbkflnenkpgaaGreatUd
import Derived.Lib.SliceRun
import Derived.Test.YtcbbkflnenkpgaaGreatUl
import Derived.Test.YtcbbkflnenkpgaaGreatSm
import Derived.Test.YtcbbkflnenkpgaaGreatUn
import Derived.Test.YtcbbkflnenkpgaaGreatUp
namespace Go.Proofs.YtcbbkflnenkpgaaGreat
open Go.RowKit Go.Shelf
set_option linter.unusedVariables false
attribute [local go_sem] Oper.semAt_some
/-- the first n elements are filled in -/
def filL (d s N n : Nat) : List Int := ordT d s n ++ List.replicate (N - n) 0
theorem filL_len {d s N n : Nat} (h : n ≤ N) : (filL d s N n).length = N := by simp [filL, ordT_len]; omega
theorem filL_set {d s N n : Nat} (h : n < N) : (filL d s N n).set n (ordV d s n) = filL d s N (n + 1) := by
  unfold filL
  rw [List.set_append_right _ _ (by rw [ordT_len]; exact Nat.le_refl _), ordT_len, Nat.sub_self, ordT_succ, List.append_assoc]
  congr 1
  rw [show N - n = (N - (n + 1)) + 1 by omega, List.replicate_succ]
  rfl
theorem filL_all {d s N : Nat} : filL d s N N = ordT d s N := by simp [filL]
structure OrK (w : World) (base DB OB d s N : Nat) (A : Option Addr) (n : Nat) (W : World) : Prop where
  le : n ≤ N
  o : Own .i64 3 W base A N N (filL d s N n)
  x : Blk W OB 60 [.slice A N N]
  dd : Blk W DB 3 [.int .i64 d]
  bl : Below w.heap.size w W
theorem OrK.cl {w : World} {B base DB OB d s N : Nat} {A : Option Addr} (hA : A ≠ none → blk A < B) (hO : OB < B) (hD : DB < B) (hw : w.heap.size ≤ B) : Cl B (fun (pre : List (Int × Int)) W => OrK w base DB OB d s N A pre.length W) := fun pre W W' row h hg hr =>
  ⟨h.le, Ownv.grown h.o hg (fun hn => fun e => by have := hr _ e.symm; have := hA hn; omega), h.x.grown hg (fun e => by have := hr _ e.symm; omega), h.dd.grown hg (fun e => by have := hr _ e.symm; omega), h.bl.grown hg h.bl.size (fun k e => Nat.le_trans hw (hr k e))⟩
theorem OrK.next {w W : World} {base DB OB d s N : Nat} {A : Option Addr} {n : Nat} (h : OrK w base DB OB d s N A n W) (hn : n < N) (hO : blk A ≠ OB) (hD : blk A ≠ DB) (hw : w.heap.size ≤ blk A) {v : Int} (hv : ordV d s n = v) :
    KeepsOthers W (W.setCell (adr A n) (.int .i64 v)) ∧ KpB [blk A] W (W.setCell (adr A n) (.int .i64 v)) ∧ OrK w base DB OB d s N A (n + 1) (W.setCell (adr A n) (.int .i64 v)) := by
  have h2 := Own.set_ h.o hn v
  refine ⟨KeepsOthers.setCell _ _ _, KpB.set h2.2 (by simp), ⟨hn, ?_, h.x.grown h2.2 (fun e => hO (Option.some.inj e).symm), h.dd.grown h2.2 (fun e => hD (Option.some.inj e).symm), h.bl.grown h2.2 h.bl.size (fun k e => by cases e; exact hw)⟩⟩
  have h3 := h2.1
  rw [← hv, filL_set hn] at h3
  rw [hv] at h3
  exact h3
theorem mxV_max {d m : Nat} (hd : d ≤ 32 * rwS d) : max ((m : Int) - (((32 * rwS d : Nat) : Int) - (d : Int))) (-1) = mxV d m := by
  unfold mxV
  split
  · rw [Int.max_eq_right (by omega)]
  · rw [Int.max_eq_left (by omega)]; omega
set_option maxRecDepth 100000 in
set_option maxHeartbeats 4000000 in
theorem order_ok (d s : Nat) (w : World) (h1 : 1 ≤ d) (h2 : d ≤ 6148) (hs : s ≤ 2) : Calls Tryz.prog 146 #[.int .i64 d, .int .i64 s] w fun e w' => ∃ A, e = .returned (.tuple #[.slice A (32 * rwS d) (32 * rwS d), .int .i64 0]) ∧ Own .i64 3 w' w.heap.size A (32 * rwS d) (32 * rwS d) (ordL d s) ∧ Below w.heap.size w w' := by
  have hR := rwS_le h2
  have hR1 := rwS_pos h1
  have hge := rwS_ge d
  have HMX := Lib.hid (fun m => mxV_max (d := d) (m := m) hge)
  have HOF := Lib.hid (fun W => of_ok d s W h1 h2 hs)
  have HSQ := Lib.hid (fun IB SB sv bs W => ind_seq d s IB SB sv h1 h2 hs bs W)
  have HPL := Lib.hid (psO_len d s)
  have HPG := Lib.hid (psO_get d s)
  have HOV := Lib.hid (fun k => show ordV d s k = mxV d (mx0 d s (k / rwS d) (k % rwS d)) from rfl)
  have HXL := Lib.hid (fun c r (h : r < rwS d) => mx0_lt (d := d) (s := s) (c := c) h)
  have HL := Lib.hid (show ordL d s = ordT d s (32 * rwS d) from rfl)
  unfold OfPost at HOF
  generalize rwS d = R at *
  obtain ⟨N, hN⟩ : ∃ N, N = 32 * R := ⟨_, rfl⟩
  have hNI : IntKind.i64.wrap (32 * (R : Int)) = (N : Int) := by rw [IntKind.wrap_i64, hN]; push_cast; omega
  rw [← hN] at HMX HPL HL HXL hge ⊢
  have hN2 : N ≤ 6176 := by omega
  have hN1 : 1 ≤ N := by omega
  clear hN
  refine (callsIn_wide (n := 3)).1 ?_
  refine callsIn_of_wp_marks Tryz.func146 rfl trivial ?_
  simp only [Tryz.ntmps146, List.size_toArray, List.length_cons, List.length_nil, Nat.reduceAdd, Nat.reduceSub, Array.replicate_succ, Array.replicate_zero, List.push_toArray, List.append_toArray, List.nil_append, List.cons_append]
  refine wpIn_wide.2 ?_
  have hd0 := Blk.new w [.int .i64 d] 3 rfl
  have hb0 := bal (Below.refl _ w) (.cells [Value.int .i64 d].toArray 3)
  have HD0 := Lib.hid hd0
  have HB0 := Lib.hid hb0
  clear hd0 hb0
  go_wp2_with fail
  refine (HOF.out _).mono ?_
  rintro e w1 ⟨sv, SB, rfl, hV, hSB, hSB2, hone, hB1⟩
  have HV1 := Lib.hid hV
  have HD1 := Lib.hid (HD0.out.below hB1)
  have HB1 := Lib.hid (HB0.out.trans (hB1.mono HB0.out.size))
  have HSB := Lib.hid hSB2
  have HONE := Lib.hid hone
  clear hV hB1 hSB hSB2 HD0 HB0 HOF hone
  have hs0 : Blk (w1.alloc (.cells #[.int .i64 0, .nilFunc] 188)) w1.heap.size 188 [.int .i64 0, .nilFunc] := Blk.new w1 _ 188 rfl
  go_wp2_with (first
    | (refine strow (cs := [.int .i64 R, sv]) rfl 188 (.tmp 6) (.tmp 15) rfl rfl rfl hs0 rfl info138 (by intro v hv; simp at hv; rcases hv with rfl | rfl; rfl; exact HONE.out) ?_
       intro W2 g1 g2
       have HS2 := Lib.hid g1
       have hq := (Below.refl w1.heap.size w1).alloc (Nat.le_refl _) (.cells #[.int .i64 0, .nilFunc] 188)
       have HB2 := Lib.hid (hq.grown g2 hq.size (fun k hk => by cases hk; exact Nat.le_refl _))
       have c0 := g1.cell (j := 0) (v := .int .i64 R) rfl
       clear g1 g2 hs0 hq)
    | (at_make; refine list_of rfl fun K hK => wp_mk (n := N) _ _ 60 rfl el34 rfl rfl (by omega) (by unfold maxLen; omega) ?_
       intro A w3 hO3 hB3 hA
       have HO3 := Lib.hid hO3
       have HA := Lib.hid hA
       have HB23 := Lib.hid hB3
       have hs4 := (HS2.out.below hB3).alloc (.cells #[.slice A N N] 60)
       clear hO3 hB3 hA c0
       refine hK _ _ ?_
       clear hK K)
    | (refine ldrow (cs := [.int .i64 R, sv]) rfl 188 (.tmp 6) rfl rfl hs4 _ Tryz.underlying188 rfl info138 ?_))
  obtain ⟨w4, hw4⟩ : ∃ W, W = w3.alloc (.cells #[.slice A N N] 60) := ⟨_, rfl⟩
  have hB34 : Below w3.heap.size w3 w4 := by rw [hw4]; exact (Below.refl _ _).alloc (Nat.le_refl _) _
  have hx4 : Blk w4 w3.heap.size 60 [.slice A N N] := by rw [hw4]; exact Blk.new w3 _ 60 rfl
  have h14 : Below w1.heap.size w1 w4 := HB2.out.trans ((HB23.out.trans (hB34.mono HB23.out.size)).mono HB2.out.size)
  have HD4 := Lib.hid (HD1.out.below h14)
  have HV4 := Lib.hid (HV1.out.below h14)
  have HB4 := Lib.hid (HB1.out.trans (h14.mono HB1.out.size))
  have HX4 := Lib.hid hx4
  have HO4 := Lib.hid (Ownv.below HO3.out hB34)
  have hbA : W2.heap.size ≤ blk A ∧ blk A < w4.heap.size := (Ownv.blk_ge HO4.out (by omega))
  have hlo : w1.heap.size ≤ W2.heap.size := HB2.out.size
  have hOB : w3.heap.size < w4.heap.size := hx4.lt
  have hDB : w.heap.size < w1.heap.size := HD1.out.lt
  have hAOB : blk A ≠ w3.heap.size := by have := (Ownv.blk_ge HO3.out (by omega)).2; omega
  rw [← hw4]
  clear hw4 hB34 hx4 h14 hs4 HB2 HB23 HS2 HO3 HD1 HV1 HB1
  generalize w3.heap.size = OB at *
  refine (ind_any R sv w4 HONE.out).mono ?_
  rintro e w5 ⟨rfl, hI5, hB5⟩
  have HI5 := Lib.hid hI5
  have HK : Hid (OrK w W2.heap.size w.heap.size OB d s N A 0 w5) := Lib.hid ⟨Nat.zero_le _, Own.of_eq (Ownv.below HO4.out hB5) rfl (by simp [filL, ordT]), HX4.out.below hB5, HD4.out.below hB5, HB4.out.trans (hB5.mono HB4.out.size)⟩
  have HV5 := Lib.hid (HV4.out.below hB5)
  have hz5 : w4.heap.size < w5.heap.size := hI5.lt
  generalize w4.heap.size = IB at *
  have HSEQ := Lib.hid (HSQ.out IB SB sv [blk A] w5 HI5.out HV5.out (by simp; omega) (by have := HSB.out; simp; omega) (by intro b hb; simp at hb; subst hb; omega))
  have hwB := HK.out.bl.size
  clear hI5 hB5 HB4 HD4 HV4 HX4 HO4 HSQ HV5 HI5
  go_wp2_with fail
  refine (wpIn_wide (n := 3)).1 ?_
  refine' rangeD (w0 := w5) (gf := 151) (lb := #[.pointer (some ⟨IB, 0, none⟩)]) rfl (enters_of Tryz.func151 (by kernel_rfl) rfl) HSEQ.out KpB.trans (fun W l o o' hl h1 h2 => KpB.put o' h1 h2) (Below.refl _ _) (fun _ => rfl)
    (fun pre W => OrK w W2.heap.size w.heap.size OB d s N A pre.length W) (fun _ _ _ => False) (OrK.cl (fun _ => by omega) (by omega) (by omega) (by omega)) (fun _ _ _ _ _ h _ _ => h) HK.out _ ?assign ?body ?done ?stop
  case assign =>
    intro l x W K hK
    unfold encP
    gi_wp2
    exact hK
  case body =>
    rintro l pre x W hI ⟨hlt, rfl⟩
    rw [HPG.out]
    rw [HPL.out] at hlt
    have hov := HOV.out pre.length
    obtain ⟨m, hm⟩ : ∃ m, m = mx0 d s (pre.length / R) (pre.length % R) := ⟨_, rfl⟩
    rw [← hm] at hov ⊢
    have hmN : m < N := by rw [hm]; exact HXL.out _ _ (Nat.mod_lt _ (by omega))
    clear hm
    have hmx := HMX.out m
    rw [← hov] at hmx
    have hc := Rd.cell (Own.rd hI.o) hlt
    have hf := Ownv.frozen hI.o (by omega) pre.length
    have hix := fun W => Rdv.ix (Own.rd hI.o) el34 hlt .i64 W
    have cO := hI.x.cell (j := 0) (v := .slice A N N) rfl
    have cD := hI.dd.cell (j := 0) (v := .int .i64 d) rfl
    have HI := Lib.hid hI
    have HLT := Lib.hid hlt
    have HOVM := Lib.hid hov
    clear hI hov
    have hlen : ∀ x : Int × Int, (pre ++ [x]).length = pre.length + 1 := fun x => by simp
    by_cases hmd : m + d + 1 < N
    · have hv : ordV d s pre.length = -1 := by rw [← hmx]; exact Int.max_eq_right (by omega)
      have HNX := Lib.hid (HI.out.next HLT.out (v := -1) hAOB (by omega) (by omega) hv)
      clear hmx hv HOVM
      gi_wp2
      exact ⟨HNX.out.1, HNX.out.2.1, by have h9 := HNX.out.2.2; rw [← hlen ((pre.length : Int), (m : Int))] at h9; exact h9⟩
    · have hv : ordV d s pre.length = (m : Int) - ((N : Int) - (d : Int)) := by rw [← hmx]; exact Int.max_eq_left (by omega)
      have HNX := Lib.hid (HI.out.next HLT.out (v := (m : Int) - ((N : Int) - (d : Int))) hAOB (by omega) (by omega) hv)
      clear hmx hv HOVM
      gi_wp2
      exact ⟨HNX.out.1, HNX.out.2.1, by have h9 := HNX.out.2.2; rw [← hlen ((pre.length : Int), (m : Int))] at h9; exact h9⟩
  case done =>
    rintro D ys W hD rfl hI hK
    rw [HPL.out] at hI
    have cO := hI.x.cell (j := 0) (v := .slice A N N) rfl
    have hO := hI.o
    rw [filL_all, ← HL.out] at hO
    have HO9 := Lib.hid (Ownv.mono (hO.grown (grownBy_putObj' W D (.deferred none)) (fun _ e => by have := Option.some.inj e; omega)) (show w.heap.size ≤ W2.heap.size by omega))
    have HB9 := Lib.hid (hI.bl.grown (grownBy_putObj' W D (.deferred none)) hI.bl.size (fun k e => by cases e; omega))
    clear hO
    go_wp2
    refine ⟨by simp, .inl ⟨_, _, rfl, run_takeDeferred hK, ?_⟩⟩
    exact ⟨_, results_tmp2 rfl _ _ _, A, rfl, HO9.out, HB9.out⟩
  case stop =>
    rintro D c pre W hD _ hx hK
    exact hx.elim
end Go.Proofs.YtcbbkflnenkpgaaGreat

namespace Go.Proofs.YtcbbkflnenkpgaaGreat
open Go.RowKit
set_option linter.unusedVariables false
def elV (k f s : Nat) (i : Int) : Int := if i < 0 ∨ (s < 2 ∧ i < (f : Int)) then -1 else ((s * (k + 4) : Nat) : Int) + i
/-- of which stream the element at place x is, and which element of it -/
def sxN (N x : Nat) : Nat := if x < N then 0 else (x - N) % 2 + 1
def jxN (N x : Nat) : Nat := if x < N then x else (x - N) / 2
def nB (k : Nat) : Nat := 32 * rwS (k + 4)
def vX (k f x : Nat) : Int := elV k f (sxN (nB k) x) (ordV (k + 4) (sxN (nB k) x) (jxN (nB k) x))
def bufT (k f n : Nat) : List Int := (List.range n).map (vX k f)
def bufL (k f : Nat) : List Int := bufT k f (3 * nB k)
theorem bufT_len (k f n : Nat) : (bufT k f n).length = n := by simp [bufT]
theorem bufT_succ (k f n : Nat) : bufT k f (n + 1) = bufT k f n ++ [vX k f n] := by simp [bufT, List.range_succ]
theorem bufT_gi (k f n x : Nat) (h : x < n) : gi (bufT k f n) x = vX k f x := by
  rw [gi_eq _ _ (by rw [bufT_len]; exact h)]; simp [bufT]
theorem nB_le {k : Nat} (h : k ≤ 6144) : nB k ≤ 6176 := by unfold nB; have := rwS_le (d := k + 4) (by omega); omega
theorem nB_pos {k : Nat} : 1 ≤ nB k := by unfold nB; have := rwS_pos (d := k + 4) (by omega); omega
theorem mxV_bd {d m : Nat} (hm : m < 32 * rwS d) : -1 ≤ mxV d m ∧ mxV d m < (d : Int) := by
  unfold mxV
  have := rwS_ge d
  split <;> omega
theorem ordV_bd {d s k : Nat} (hd : 1 ≤ d) : -1 ≤ ordV d s k ∧ ordV d s k < (d : Int) := mxV_bd (mx0_lt (Nat.mod_lt _ (by have := rwS_pos hd; omega)))
/-- how many are usable -/
def usC (xs : List Int) : Nat := (xs.filter fun x => decide (0 ≤ x)).length
theorem usC_snoc (xs : List Int) (x : Int) : usC (xs ++ [x]) = usC xs + if 0 ≤ x then 1 else 0 := by
  unfold usC
  rw [List.filter_append, List.length_append]
  by_cases h : 0 ≤ x
  · simp [h]
  · simp [h]
theorem usC_le (xs : List Int) : usC xs ≤ xs.length := List.length_filter_le _ _
theorem vX_lo {k f j : Nat} (h : j < nB k) : vX k f j = elV k f 0 (ordV (k + 4) 0 j) := by
  unfold vX sxN jxN
  rw [if_pos h, if_pos h]
theorem vX_hi {k f j : Nat} : vX k f (nB k + 2 * j) = elV k f 1 (ordV (k + 4) 1 j) ∧ vX k f (nB k + 2 * j + 1) = elV k f 2 (ordV (k + 4) 2 j) := by
  unfold vX sxN jxN
  constructor
  · rw [if_neg (by omega), if_neg (by omega), show (nB k + 2 * j - nB k) % 2 + 1 = 1 by omega, show (nB k + 2 * j - nB k) / 2 = j by omega]
  · rw [if_neg (by omega), if_neg (by omega), show (nB k + 2 * j + 1 - nB k) % 2 + 1 = 2 by omega, show (nB k + 2 * j + 1 - nB k) / 2 = j by omega]
set_option maxRecDepth 100000 in
theorem elem_any (k f s : Nat) (i : Int) (w : World) (hk : k ≤ 6144) (hs : s ≤ 2) (h1 : -1 ≤ i) (h2 : i ≤ 7000) : Calls Tryz.prog 117 #[.int .i64 k, .int .i64 f, .int .i64 s, .int .i64 i] w fun e w' => e = .returned (.int .i64 (elV k f s i)) ∧ w = w' := by
  by_cases h : i < 0
  · have e : elV k f s i = -1 := by unfold elV; rw [if_pos (.inl h)]
    have q : decide (i < 0) = true := by simp [h]
    rw [e]
    go_enter Tryz.func117, Tryz.ntmps117
    go_wp2
    go_ret
    exact ⟨rfl, by trivial⟩
  · have q : decide (i < 0) = false := by simp; omega
    by_cases h3 : s < 2 ∧ i < (f : Int)
    · have e : elV k f s i = -1 := by unfold elV; rw [if_pos (.inr h3)]
      have q2 : decide ((s : Int) < 2) = true := by simp; omega
      have q3 : decide (i < (f : Int)) = true := by simp [h3.2]
      rw [e]
      go_enter Tryz.func117, Tryz.ntmps117
      go_wp2
      go_ret
      exact ⟨rfl, by trivial⟩
    · have e : elV k f s i = ((s * (k + 4) : Nat) : Int) + i := by unfold elV; rw [if_neg (by omega)]
      have hm : (s : Int) * ((k : Int) + 4) = ((s * (k + 4) : Nat) : Int) := by push_cast; rfl
      have hb : s * (k + 4) ≤ 12296 := by
        have := Nat.mul_le_mul hs (show k + 4 ≤ 6148 by omega); omega
      rw [e]
      by_cases h4 : s < 2
      · have q2 : decide ((s : Int) < 2) = true := by simp; omega
        have q3 : decide (i < (f : Int)) = false := by simp; omega
        generalize ((s * (k + 4) : Nat)) = P at *
        go_enter Tryz.func117, Tryz.ntmps117
        go_wp2
        go_ret
        exact ⟨rfl, by trivial⟩
      · have q2 : decide ((s : Int) < 2) = false := by simp; omega
        generalize ((s * (k + 4) : Nat)) = P at *
        go_enter Tryz.func117, Tryz.ntmps117
        go_wp2
        go_ret
        exact ⟨rfl, by trivial⟩
def UsI (w : World) (n : Nat) (xs : List Int) (c i : Value) (wr : World) : Prop := ∃ j : Nat, j ≤ n ∧ i = .int .i64 j ∧ c = .int .i64 (usC (xs.take j)) ∧ Qt w wr
set_option maxRecDepth 100000 in
theorem rus_any (A : Option Addr) (n c : Nat) (xs : List Int) (w : World) (hx : Rd .i64 w A n c xs) (hn : n ≤ 100000) : Calls Tryz.prog 74 #[.slice A n c] w fun e w' => e = .returned (.int .i64 (usC xs)) ∧ Qt w w' := by
  have hl := hx.len
  go_enter Tryz.func74, Tryz.ntmps74
  go_wp2
  go_loopw [3, 4] (fun c i wr => UsI w n xs c i wr) (fun _ i _ => n - (intOf i).toNat)
  case atStart => exact ⟨0, Nat.zero_le _, rfl, rfl, 0, rfl⟩
  case round =>
    obtain ⟨j, hj, rfl, rfl, q0, rfl⟩ := hrel
    by_cases hlt : j < n
    · have hc := Rd.cell hx hlt
      have hix := fun W => Rdv.ix hx el34 hlt .i64 W
      have hsn := usC_snoc (xs.take j) (gi xs j)
      have hle := usC_le (xs.take j)
      rw [List.length_take] at hle
      have htk : xs.take (j + 1) = xs.take j ++ [gi xs j] := by rw [List.take_succ_eq_append_getElem (by omega), gi_eq _ _ (by omega)]
      rw [← htk] at hsn
      have HSN := Lib.hid hsn
      clear hsn htk
      generalize gi xs j = x at *
      generalize usC (xs.take j) = u at *
      by_cases h0 : 0 ≤ x
      · go_wp2
        go_roundw
        case rel => exact ⟨j + 1, by omega, by go_num, by rw [HSN.out, if_pos h0]; push_cast; rfl, by first | exact ⟨_, rfl⟩ | exact Qt.drewN ⟨_, rfl⟩ _⟩
        case measure => simp [intOf]; omega
      · go_wp2
        go_roundw
        case rel => exact ⟨j + 1, by omega, by go_num, by rw [HSN.out, if_neg h0]; rfl, by first | exact ⟨_, rfl⟩ | exact Qt.drewN ⟨_, rfl⟩ _⟩
        case measure => simp [intOf]; omega
    · obtain rfl : j = n := by omega
      rw [List.take_of_length_le (by omega)]
      go_wp2
      go_ret
      exact ⟨rfl, by first | exact ⟨_, rfl⟩ | exact Qt.drewN ⟨_, rfl⟩ _⟩
end Go.Proofs.YtcbbkflnenkpgaaGreat

namespace Go.Proofs.YtcbbkflnenkpgaaGreat
open Go.RowKit
set_option linter.unusedVariables false
def W2S (A : Option Addr) (k : Nat) (v : Value) (B : Option Addr) (q : Nat) (u : Value) (W : World) : Prop := W.cell? (adr A k) = some v ∧ W.cell? (adr B q) = some u
theorem cell_below {w w' : World} {p : Addr} {v : Value} (hc : w.cell? p = some v) (h : Below w.heap.size w w') : w'.cell? p = some v := (h.cell (World.block_lt_of_cell? w _ hc)).trans hc
theorem ordL_gi (d s j : Nat) (h : j < 32 * rwS d) : gi (ordL d s) j = ordV d s j := by
  unfold ordL
  rw [gi_eq _ _ (by rw [ordT_len]; exact h)]; simp [ordT]
def B1I (k f N : Nat) (w : World) (o i : Value) (wr : World) : Prop := ∃ (j : Nat) (A : Option Addr) (c : Nat), j ≤ N ∧ i = .int .i64 j ∧ o = .slice A j c ∧ Own .i64 3 wr w.heap.size A j c (bufT k f j) ∧ Below w.heap.size w wr
def B2I (k f N : Nat) (w : World) (o i : Value) (wr : World) : Prop := ∃ (j : Nat) (A : Option Addr) (c : Nat), j ≤ N ∧ i = .int .i64 j ∧ o = .slice A (N + 2 * j) c ∧ Own .i64 3 wr w.heap.size A (N + 2 * j) c (bufT k f (N + 2 * j)) ∧ Below w.heap.size w wr
def szB (k : Nat) (lim : Int) : Nat := if lim ≤ ((3 * nB k : Nat) : Int) then lim.toNat else 3 * nB k
set_option maxRecDepth 100000 in
set_option maxHeartbeats 2000000 in
theorem rbuf_ok (k f : Nat) (lim : Int) (w : World) (h1 : 40 ≤ k) (h2 : k ≤ 6144) (hf : f < k) (hl : 1 ≤ lim) : Calls Tryz.prog 75 #[.int .i64 k, .int .i64 f, .int .i64 lim] w fun e w' => ∃ A c, e = .returned (.slice A (szB k lim) c) ∧ Rd .i64 w' A (szB k lim) c ((bufL k f).take (szB k lim)) ∧ Below w.heap.size w w' := by
  have HO := Lib.hid (fun (s : Nat) (hs : s ≤ 2) W => rorder_ok (k + 4) s W (by omega) (by omega) hs)
  have HG := Lib.hid (fun s j (h : j < nB k) => ordL_gi (k + 4) s j h)
  have HBD := Lib.hid (fun s j => ordV_bd (d := k + 4) (s := s) (k := j) (by omega))
  have HEL := Lib.hid (fun s i W hs h3 h4 => elem_any k f s i W h2 hs h3 h4)
  have HLO := Lib.hid (fun j h => vX_lo (k := k) (f := f) (j := j) h)
  have HHI := Lib.hid (fun j => vX_hi (k := k) (f := f) (j := j))
  have HBL := Lib.hid (show bufL k f = bufT k f (3 * nB k) from rfl)
  have HSZ := Lib.hid (show szB k lim = if lim ≤ ((3 * nB k : Nat) : Int) then lim.toNat else 3 * nB k from rfl)
  have hN := nB_le h2
  have hN1 := nB_pos (k := k)
  have HO0 := Lib.hid (fun W => HO.out 0 (by decide) W)
  have HO1 := Lib.hid (fun W => HO.out 1 (by decide) W)
  have HO2 := Lib.hid (fun W => HO.out 2 (by decide) W)
  simp only [show 32 * rwS (k + 4) = nB k from rfl] at HO0 HO1 HO2
  push_cast at HO0 HO1 HO2
  generalize szB k lim = Z at *
  generalize nB k = N at *
  clear HO
  go_enter Tryz.func75, Tryz.ntmps75
  go_wp2_with fail
  refine (HO0.out _).mono ?_
  rintro e w1 ⟨B0, c0, rfl, hO0, hB1⟩
  have HR0 := Lib.hid (Own.rd hO0)
  have HB1 := Lib.hid hB1
  clear hO0 hB1
  go_wp2_with fail
  refine (HO1.out _).mono ?_
  rintro e w2 ⟨B1, c1, rfl, hO1, hB2⟩
  have HR0 := Lib.hid (Rdv.below HR0.out hB2)
  have HR1 := Lib.hid (Own.rd hO1)
  have HB2 := Lib.hid (HB1.out.trans (hB2.mono HB1.out.size))
  clear hO1 hB2
  go_wp2_with fail
  refine (HO2.out _).mono ?_
  rintro e w3 ⟨B2, c2, rfl, hO2, hB3⟩
  have HR0 := Lib.hid (Rdv.below HR0.out hB3)
  have HR1 := Lib.hid (Rdv.below HR1.out hB3)
  have HR2 := Lib.hid (Own.rd hO2)
  have HB3 := Lib.hid (HB2.out.trans (hB3.mono HB2.out.size))
  clear hO2 hB3 HB1 HB2 HO0 HO1 HO2
  go_wp2
  go_loopw [13, 14] (fun o i wr => B1I k f N w3 o i wr) (fun _ i _ => N - (intOf i).toNat)
  case atStart => exact ⟨0, none, 0, Nat.zero_le _, rfl, rfl, Own.nilv _ _ _ _, Below.refl _ _⟩
  case round =>
    obtain ⟨j, A, c, hj, rfl, rfl, hO, hB⟩ := hrel
    have HO := Lib.hid hO
    have HB := Lib.hid hB
    clear hO hB
    by_cases hlt : j < N
    · have hr := Rdv.below HR0.out HB.out
      have hc := Rd.cell hr hlt
      have hix := fun W => Rdv.ix hr el34 hlt .i64 W
      rw [HG.out 0 j hlt] at hc
      have hbd := HBD.out 0 j
      have HS := Lib.hid (bufT_succ k f j)
      have HV := Lib.hid (HLO.out j hlt)
      generalize ordV (k + 4) 0 j = v at *
      have HE := Lib.hid (fun W => HEL.out 0 v W (by decide) (by omega) (by omega))
      push_cast at HE
      generalize elV k f 0 v = e1 at *
      clear hr
      go_wp2_with (first
        | (go_at_call 117; refine (HE.out _).mono ?_; rintro e w' ⟨rfl, rfl⟩)
        | (at_builtin; refine list_of rfl fun K hK => wp_app1 _ _ 60 rfl el34 rfl (.int .i64 e1) rfl rfl HO.out (by omega) (by omega) HB.out.size ?_; intro A' c' w' hO' hg; have HO' := Lib.hid hO'; have HGR := Lib.hid hg; clear hO' hg; refine hK _ _ ?_; clear hK K))
      go_roundw
      case rel => exact ⟨j + 1, A', c', by omega, by go_num, rfl, Own.of_eq HO'.out rfl (by rw [HS.out, List.map_append, HV.out]; rfl), HB.out.grown HGR.out HB.out.size (fun k hk => Ownv.ob' HO.out hk)⟩
      case measure => simp [intOf]; omega
    · obtain rfl : j = N := by omega
      go_wp2
      go_loopw [13, 15] (fun o i wr => B2I k f j w3 o i wr) (fun _ i _ => j - (intOf i).toNat)
      case atStart => exact ⟨0, A, c, Nat.zero_le _, rfl, rfl, HO.out, HB.out⟩
      case round =>
        clear HO HB
        generalize j = N at *
        obtain ⟨j, A, c, hj, rfl, rfl, hO, hB⟩ := hrel
        have HO := Lib.hid hO
        have HB := Lib.hid hB
        clear hO hB
        by_cases hlt : j < N
        · have hr1 := Rdv.below HR1.out HB.out
          have hr2 := Rdv.below HR2.out HB.out
          have hc1 := Rd.cell hr1 hlt
          have hc2 := Rd.cell hr2 hlt
          have hix1 := fun W => Rdv.ix hr1 el34 hlt .i64 W
          have hix2 := fun W => Rdv.ix hr2 el34 hlt .i64 W
          rw [HG.out 1 j hlt] at hc1
          rw [HG.out 2 j hlt] at hc2
          have hbd1 := HBD.out 1 j
          have hbd2 := HBD.out 2 j
          have HS1 := Lib.hid (bufT_succ k f (N + 2 * j))
          have HS2 := Lib.hid (bufT_succ k f (N + 2 * j + 1))
          have HV := Lib.hid (HHI.out j)
          generalize ordV (k + 4) 1 j = v1 at *
          generalize ordV (k + 4) 2 j = v2 at *
          have HE1 := Lib.hid (fun W => HEL.out 1 v1 W (by decide) (by omega) (by omega))
          have HE2 := Lib.hid (fun W => HEL.out 2 v2 W (by decide) (by omega) (by omega))
          push_cast at HE1 HE2
          generalize elV k f 1 v1 = e1 at *
          generalize elV k f 2 v2 = e2 at *
          have HW : Hid (W2S B1 j (.int .i64 v1) B2 j (.int .i64 v2) wr.drew) := Lib.hid ⟨hc1, hc2⟩
          clear hr1 hr2 hc1 hc2
          go_wp2_with fail
          refine wp_nopanic ?_
          refine P_start (W2S B1 j (.int .i64 v1) B2 j (.int .i64 v2)) 16 18 #[false, false, false, false, false, false, false, false, false, false, false, false, false, false, false, false, false, false] (by kernel_rfl) (by kernel_rfl) (by kernel_rfl) ?_
          refine P_takeW 0 56 (.slice A (N + 2 * j) c) #[true, false, false, false, false, false, false, false, false, false, false, false, false, false, false, false, false, false] rfl rfl (by kernel_rfl) (by kernel_rfl) (by kernel_rfl) (by kernel_rfl) (by decide) (fun _ _ _ h => h) (Or.inl ⟨by rfl, fun W hS => by go_simp⟩) HW.out ?_
          simp only [List.setIfInBounds_toArray, List.set_cons_zero, List.set_cons_succ]
          refine P_takeW 1 57 (.int .i64 (k : Int)) #[true, true, false, false, false, false, false, false, false, false, false, false, false, false, false, false, false, false] rfl rfl (by kernel_rfl) (by kernel_rfl) (by kernel_rfl) (by kernel_rfl) (by decide) (fun _ _ _ h => h) (Or.inl ⟨by rfl, fun W hS => by go_simp⟩) HW.out ?_
          simp only [List.setIfInBounds_toArray, List.set_cons_zero, List.set_cons_succ]
          refine P_takeW 2 58 (.int .i64 (f : Int)) #[true, true, true, false, false, false, false, false, false, false, false, false, false, false, false, false, false, false] rfl rfl (by kernel_rfl) (by kernel_rfl) (by kernel_rfl) (by kernel_rfl) (by decide) (fun _ _ _ h => h) (Or.inl ⟨by rfl, fun W hS => by go_simp⟩) HW.out ?_
          simp only [List.setIfInBounds_toArray, List.set_cons_zero, List.set_cons_succ]
          refine P_takeW 3 59 (.slice B1 N c1) #[true, true, true, true, false, false, false, false, false, false, false, false, false, false, false, false, false, false] rfl rfl (by kernel_rfl) (by kernel_rfl) (by kernel_rfl) (by kernel_rfl) (by decide) (fun _ _ _ h => h) (Or.inl ⟨by rfl, fun W hS => by go_simp⟩) HW.out ?_
          simp only [List.setIfInBounds_toArray, List.set_cons_zero, List.set_cons_succ]
          refine P_takeW 4 60 (.int .i64 (j : Int)) #[true, true, true, true, true, false, false, false, false, false, false, false, false, false, false, false, false, false] rfl rfl (by kernel_rfl) (by kernel_rfl) (by kernel_rfl) (by kernel_rfl) (by decide) (fun _ _ _ h => h) (Or.inl ⟨by rfl, fun W hS => by go_simp⟩) HW.out ?_
          simp only [List.setIfInBounds_toArray, List.set_cons_zero, List.set_cons_succ]
          refine P_takeW 5 61 (.pointer (some (adr B1 j))) #[true, true, true, true, true, true, false, false, false, false, false, false, false, false, false, false, false, false] rfl rfl (by kernel_rfl) (by kernel_rfl) (by kernel_rfl) (by kernel_rfl) (by decide) (fun _ _ _ h => h) (Or.inl ⟨by rfl, fun W hS => by go_simp⟩) HW.out ?_
          simp only [List.setIfInBounds_toArray, List.set_cons_zero, List.set_cons_succ]
          refine P_takeT 6 62 (.int .i64 v1) #[true, true, true, true, true, true, true, false, false, false, false, false, false, false, false, false, false, false] [15, 7] rfl rfl (by kernel_rfl) (by kernel_rfl) (by kernel_rfl) (by kernel_rfl) (by kernel_rfl) (by kernel_rfl) (by kernel_rfl) (by decide) (fun _ _ _ h => h) (Or.inl ⟨by rfl, fun W hS => by obtain ⟨s0, s1⟩ := hS; go_simp⟩) HW.out ?_
          simp only [List.setIfInBounds_toArray, List.set_cons_zero, List.set_cons_succ]
          refine P_takeW 8 64 (.int .i64 (k : Int)) #[true, true, true, true, true, true, true, false, true, false, false, false, false, false, false, false, false, false] rfl rfl (by kernel_rfl) (by kernel_rfl) (by kernel_rfl) (by kernel_rfl) (by decide) (fun _ _ _ h => h) (Or.inl ⟨by rfl, fun W hS => by go_simp⟩) HW.out ?_
          simp only [List.setIfInBounds_toArray, List.set_cons_zero, List.set_cons_succ]
          refine P_takeW 9 65 (.int .i64 (f : Int)) #[true, true, true, true, true, true, true, false, true, true, false, false, false, false, false, false, false, false] rfl rfl (by kernel_rfl) (by kernel_rfl) (by kernel_rfl) (by kernel_rfl) (by decide) (fun _ _ _ h => h) (Or.inl ⟨by rfl, fun W hS => by go_simp⟩) HW.out ?_
          simp only [List.setIfInBounds_toArray, List.set_cons_zero, List.set_cons_succ]
          refine P_takeW 10 66 (.slice B2 N c2) #[true, true, true, true, true, true, true, false, true, true, true, false, false, false, false, false, false, false] rfl rfl (by kernel_rfl) (by kernel_rfl) (by kernel_rfl) (by kernel_rfl) (by decide) (fun _ _ _ h => h) (Or.inl ⟨by rfl, fun W hS => by go_simp⟩) HW.out ?_
          simp only [List.setIfInBounds_toArray, List.set_cons_zero, List.set_cons_succ]
          refine P_takeW 11 67 (.int .i64 (j : Int)) #[true, true, true, true, true, true, true, false, true, true, true, true, false, false, false, false, false, false] rfl rfl (by kernel_rfl) (by kernel_rfl) (by kernel_rfl) (by kernel_rfl) (by decide) (fun _ _ _ h => h) (Or.inl ⟨by rfl, fun W hS => by go_simp⟩) HW.out ?_
          simp only [List.setIfInBounds_toArray, List.set_cons_zero, List.set_cons_succ]
          refine P_takeW 12 68 (.pointer (some (adr B2 j))) #[true, true, true, true, true, true, true, false, true, true, true, true, true, false, false, false, false, false] rfl rfl (by kernel_rfl) (by kernel_rfl) (by kernel_rfl) (by kernel_rfl) (by decide) (fun _ _ _ h => h) (Or.inl ⟨by rfl, fun W hS => by go_simp⟩) HW.out ?_
          simp only [List.setIfInBounds_toArray, List.set_cons_zero, List.set_cons_succ]
          refine P_takeT 13 69 (.int .i64 v2) #[true, true, true, true, true, true, true, false, true, true, true, true, true, true, false, false, false, false] [14] rfl rfl (by kernel_rfl) (by kernel_rfl) (by kernel_rfl) (by kernel_rfl) (by kernel_rfl) (by kernel_rfl) (by kernel_rfl) (by decide) (fun _ _ _ h => h) (Or.inl ⟨by rfl, fun W hS => by obtain ⟨s0, s1⟩ := hS; go_simp⟩) HW.out ?_
          simp only [List.setIfInBounds_toArray, List.set_cons_zero, List.set_cons_succ]
          refine P_oneS 7 #[true, true, true, true, true, true, true, true, true, true, true, true, true, true, false, false, false, false] rfl (by kernel_rfl) (by kernel_rfl) rfl (fun K hK => ?_)
          go_simp
          refine (HE1.out _).mono ?_
          rintro e w' ⟨rfl, rfl⟩
          refine hK _ _ HW.out ?_
          clear hK K
          refine P_oneS 14 #[true, true, true, true, true, true, true, true, true, true, true, true, true, true, true, false, false, false] rfl (by kernel_rfl) (by kernel_rfl) rfl (fun K hK => ?_)
          go_simp
          refine (HE2.out _).mono ?_
          rintro e w' ⟨rfl, rfl⟩
          refine hK _ _ HW.out ?_
          clear hK K
          refine P_oneS 15 #[true, true, true, true, true, true, true, true, true, true, true, true, true, true, true, true, false, false] rfl (by kernel_rfl) (by kernel_rfl) rfl (fun K hK => ?_)
          go_simp
          refine hK _ _ ⟨cell_below HW.out.1 ((Below.refl _ wr.drew).alloc (Nat.le_refl _) _), cell_below HW.out.2 ((Below.refl _ wr.drew).alloc (Nat.le_refl _) _)⟩ ?_
          clear hK K
          refine P_one 16 #[true, true, true, true, true, true, true, true, true, true, true, true, true, true, true, true, true, false] rfl (by kernel_rfl) (by kernel_rfl) rfl (by kernel_rfl) (fun K hK => ?_)
          refine wp_app (w := wr.drew.alloc (.cells #[.int .i64 e1, .int .i64 e2] 3)) (base := w3.heap.size) (.tmp 56) (.tmp 71) 60 rfl el34 rfl rfl (Ownv.alloc (Ownv.drew HO.out) _) (Ownv.rd (Ownv.lit (base := wr.heap.size) wr.drew #[.int .i64 e1, .int .i64 e2] 3 rfl (Nat.le_refl _) (by show 2 ≤ maxLen; unfold maxLen; omega))) (by intro u hu; simp at hu; rcases hu with rfl | rfl <;> rfl) (by omega) (by unfold maxLen; omega) (by have := HB.out.size; simp; omega) ?_
          intro A' c' w' hO' hg
          have HO' := Lib.hid hO'
          have HG := Lib.hid (grownBy_of_alloc hg)
          clear hO' hg
          refine hK _ _ ?_
          clear hK K
          refine P_one 17 #[true, true, true, true, true, true, true, true, true, true, true, true, true, true, true, true, true, true] rfl (by kernel_rfl) (by kernel_rfl) rfl (by kernel_rfl) (fun K hK => ?_)
          go_simp
          refine hK _ _ ?_
          clear hK K
          refine P_done (by kernel_rfl) ?_ _
          refine noPanic_normal ?_
          go_wp2
          go_roundw
          case rel => exact ⟨j + 1, A', c', by omega, by go_num, rfl, Own.of_eq HO'.out rfl (by rw [show N + 2 * (j + 1) = N + 2 * j + 1 + 1 by omega, HS2.out, HS1.out, HV.out.1, HV.out.2]; simp), (HB.out.trans ((Below.refl _ wr).drew.mono HB.out.size)).grown HG.out HB.out.size (fun k hk => Ownv.ob' HO.out hk)⟩
          case measure => simp [intOf]; omega
        · obtain rfl : j = N := by omega
          have hO := HO.out
          rw [show j + 2 * j = 3 * j by omega] at hO ⊢
          rw [← HBL.out] at hO
          have HRF := Lib.hid (Own.rd hO)
          have hcap := Rdv.le HRF.out
          have hsl := fun (m : Nat) (hm : m ≤ 3 * j) W => Rdv.slh HRF.out el34 .i64 (m := m) (by omega) W
          have HB9 := Lib.hid (HB3.out.trans (HB.out.mono HB3.out.size))
          clear hO HO HB
          have hsz := HSZ.out
          by_cases hlim : lim ≤ ((3 * j : Nat) : Int)
          · rw [if_pos hlim] at hsz
            obtain ⟨m, rfl⟩ : ∃ m : Nat, lim = (m : Int) := ⟨lim.toNat, by omega⟩
            rw [Int.toNat_natCast] at hsz
            have hZ := hsl m (by omega)
            clear hsl
            subst hsz
            have q1 : min (Z : Int) ((3 * j : Nat) : Int) = (Z : Int) := Int.min_eq_left hlim
            go_wp2
            go_ret
            exact ⟨A, c, rfl, Rd.upto HRF.out (by omega), HB9.out⟩
          · rw [if_neg hlim] at hsz
            have hZ := hsl (3 * j) (Nat.le_refl _)
            clear hsl
            subst hsz
            go_wp2
            go_ret
            exact ⟨A, c, rfl, Rd.upto HRF.out (Nat.le_refl _), HB9.out⟩
end Go.Proofs.YtcbbkflnenkpgaaGreat

namespace Go.Proofs.YtcbbkflnenkpgaaGreat
open Go.RowKit
set_option linter.unusedVariables false
def pS (N s j : Nat) : Nat := if s = 0 then j else N + 2 * j + s - 1
theorem pS_lt {N s j : Nat} (hs : s ≤ 2) (hj : j < N) : pS N s j < 3 * N := by unfold pS; split <;> omega
theorem pS_iff {N s j x : Nat} (hs : s ≤ 2) (hj : j < N) (hx : x < 3 * N) : (sxN N x = s ∧ jxN N x = j) ↔ pS N s j = x := by
  unfold sxN jxN pS
  split <;> split <;> omega
theorem jxN_lt {N x : Nat} (hx : x < 3 * N) : jxN N x < N := by unfold jxN; split <;> omega
theorem sxN_le (N x : Nat) : sxN N x ≤ 2 := by unfold sxN; split <;> omega
/-- the streams before s are filled in, and the first j elements of s -/
def fuV (k f s j x : Nat) : Int := if sxN (nB k) x < s ∨ (sxN (nB k) x = s ∧ jxN (nB k) x < j) then vX k f x else 0
def fulS (k f s j : Nat) : List Int := (List.range (3 * nB k)).map (fuV k f s j)
theorem fulS_len (k f s j : Nat) : (fulS k f s j).length = 3 * nB k := by simp [fulS]
theorem fulS_gi (k f s j x : Nat) (h : x < 3 * nB k) : gi (fulS k f s j) x = fuV k f s j x := by
  rw [gi_eq _ _ (by rw [fulS_len]; exact h)]; simp [fulS]
theorem fulS_set {k f s j : Nat} (hs : s ≤ 2) (hj : j < nB k) : (fulS k f s j).set (pS (nB k) s j) (elV k f s (ordV (k + 4) s j)) = fulS k f s (j + 1) := by
  refine ext_gi (by simp [fulS_len]) fun x hx => ?_
  have hx' : x < 3 * nB k := by simpa [fulS_len] using hx
  rw [gi_set _ _ _ _ (by rw [fulS_len]; exact pS_lt hs hj), fulS_gi _ _ _ _ _ hx', fulS_gi _ _ _ _ _ hx']
  have hi := pS_iff hs hj hx'
  by_cases e : pS (nB k) s j = x
  · rw [if_pos e]
    obtain ⟨e1, e2⟩ := hi.2 e
    unfold fuV
    rw [if_pos (.inr ⟨e1, by omega⟩)]
    unfold vX
    rw [e1, e2]
  · rw [if_neg e]
    have h9 : ¬ (sxN (nB k) x = s ∧ jxN (nB k) x = j) := fun h => e (hi.1 h)
    unfold fuV
    by_cases h8 : sxN (nB k) x < s ∨ (sxN (nB k) x = s ∧ jxN (nB k) x < j)
    · rw [if_pos h8, if_pos (by omega)]
    · rw [if_neg h8, if_neg (by omega)]
theorem fulS_next (k f s : Nat) : fulS k f s (nB k) = fulS k f (s + 1) 0 := by
  refine ext_gi (by rw [fulS_len, fulS_len]) fun x hx => ?_
  rw [fulS_len] at hx
  rw [fulS_gi _ _ _ _ _ hx, fulS_gi _ _ _ _ _ hx]
  have := jxN_lt hx
  unfold fuV
  by_cases h8 : sxN (nB k) x < s + 1
  · rw [if_pos (by omega), if_pos (.inl h8)]
  · rw [if_neg (by omega), if_neg (by omega)]
theorem fulS_all (k f : Nat) : fulS k f 3 0 = bufL k f := by
  refine ext_gi (by rw [fulS_len, bufL, bufT_len]) fun x hx => ?_
  rw [fulS_len] at hx
  have := sxN_le (nB k) x
  rw [fulS_gi _ _ _ _ _ hx, bufL, bufT_gi _ _ _ _ hx]
  unfold fuV
  rw [if_pos (.inl (by omega))]
theorem fulS_none (k f : Nat) : fulS k f 0 0 = List.replicate (3 * nB k) 0 := by
  refine List.ext_getElem (by simp [fulS]) fun x h1 h2 => ?_
  simp [fulS, fuV]
set_option maxRecDepth 100000 in
theorem at0_any (s d SB DB : Nat) (i : Int) (w : World) (hS : Blk w SB 3 [.int .i64 s]) (hD : Blk w DB 3 [.int .i64 d]) (hs : s ≤ 2) (hd : d ≤ 6148) (h1 : 0 ≤ i) (h2 : i ≤ 7000) : Calls Tryz.prog 144 #[.int .i64 i, .pointer (some ⟨SB, 0, none⟩), .pointer (some ⟨DB, 0, none⟩)] w fun e w' => e = .returned (.int .i64 (((s * d : Nat) : Int) + i)) ∧ w = w' := by
  have c1 := hS.cell (j := 0) (v := .int .i64 s) rfl
  have c2 := hD.cell (j := 0) (v := .int .i64 d) rfl
  have hm : (s : Int) * (d : Int) = ((s * d : Nat) : Int) := by push_cast; rfl
  have hb : s * d ≤ 12296 := by have := Nat.mul_le_mul hs hd; omega
  generalize s * d = P at *
  go_enter Tryz.func144, Tryz.ntmps144
  go_wp2
  go_ret
  exact ⟨rfl, by trivial⟩
theorem at_lo {k f s : Nat} {i : Int} (h1 : 0 ≤ i) (h : s < 2 → (f : Int) ≤ i) : ((s * (k + 4) : Nat) : Int) + i = elV k f s i := by
  unfold elV
  rw [if_neg (by omega)]
theorem at_hi {k f s : Nat} {i : Int} (h : i < (f : Int)) (hs : s < 2) : elV k f s i = -1 := by
  unfold elV
  rw [if_pos (.inr ⟨hs, h⟩)]
set_option maxRecDepth 100000 in
theorem at1_any (k f s WB PB SB DB : Nat) (R Z : Value) (i : Int) (w : World) (hW : Blk w WB 155 [.int .i64 k, .int .i64 f, R, Z]) (hP : Blk w PB 84 [.func (.func 144) #[] #[.pointer (some ⟨SB, 0, none⟩), .pointer (some ⟨DB, 0, none⟩)]]) (hS : Blk w SB 3 [.int .i64 s]) (hD : Blk w DB 3 [.int .i64 ((k + 4 : Nat) : Int)]) (hs : s < 2) (hk : k ≤ 6144) (h1 : 0 ≤ i) (h2 : i ≤ 7000) :
    Calls Tryz.prog 145 #[.int .i64 i, .pointer (some ⟨WB, 0, none⟩), .pointer (some ⟨PB, 0, none⟩)] w fun e w' => e = .returned (.int .i64 (elV k f s i)) ∧ w = w' := by
  have c1 := hW.cell (j := 1) (v := .int .i64 f) rfl
  by_cases h : i < (f : Int)
  · rw [at_hi h hs]
    have q : decide (i < (f : Int)) = true := by simp [h]
    go_enter Tryz.func145, Tryz.ntmps145
    go_wp2
    go_ret
    exact ⟨rfl, by trivial⟩
  · have q : decide (i < (f : Int)) = false := by simp; omega
    have c2 := hP.cell (j := 0) (v := .func (.func 144) #[] #[.pointer (some ⟨SB, 0, none⟩), .pointer (some ⟨DB, 0, none⟩)]) rfl
    have HA := Lib.hid (at0_any s (k + 4) SB DB i w hS hD (by omega) (by omega) h1 h2)
    rw [at_lo (k := k) (f := f) (s := s) h1 (fun _ => by omega)] at HA
    go_enter Tryz.func145, Tryz.ntmps145
    go_wp2_with fail
    refine HA.out.mono ?_
    rintro e w' ⟨rfl, rfl⟩
    go_wp2
    go_ret
    exact ⟨rfl, by trivial⟩
end Go.Proofs.YtcbbkflnenkpgaaGreat

namespace Go.Proofs.YtcbbkflnenkpgaaGreat
open Go.RowKit
set_option linter.unusedVariables false
def W115 (WB k R : Nat) (W : World) : Prop := W.cell? ⟨WB, 0, none⟩ = some (.int .i64 k) ∧ W.cell? ⟨WB, 2, none⟩ = some (.int .i64 R)
theorem W115.alloc {WB k R : Nat} {W : World} (h : W115 WB k R W) (o : Obj) : W115 WB k R (W.alloc o) := ⟨cell_below h.1 (bal (Below.refl _ W) o), cell_below h.2 (bal (Below.refl _ W) o)⟩
theorem W115.setC {WB k R : Nat} {W : World} (h : W115 WB k R W) {g : Nat} (hg : WB ≠ g) (j : Nat) (v : Value) : W115 WB k R (W.setCell ⟨g, j, none⟩ v) :=
  ⟨(World.cell?_setCell_other W ⟨g, j, none⟩ ⟨WB, 0, none⟩ v (by first | (simp; done) | (simp; omega))).trans h.1, (World.cell?_setCell_other W ⟨g, j, none⟩ ⟨WB, 2, none⟩ v (by first | (simp; done) | (simp; omega))).trans h.2⟩
/-- while the streams are filled in -/
def FoJ (k f N D WB DB base : Nat) (A : Option Addr) (Rv Sv : Value) (w : World) (i : Value) (wr : World) : Prop := ∃ s : Nat, s ≤ 3 ∧ i = .int .i64 s ∧ Own .i64 3 wr base A (3 * N) (3 * N) (fulS k f s 0) ∧ Blk wr DB 3 [.int .i64 D] ∧ Blk wr WB 155 [.int .i64 k, .int .i64 f, Rv, Sv] ∧ Below w.heap.size w wr
structure FiS (k f s N D WB DB SB PB base : Nat) (A O : Option Addr) (Rv Sv : Value) (w : World) (i : Value) (wr : World) (j : Nat) : Prop where
  le : j ≤ N
  ie : i = .int .i64 j
  ow : Own .i64 3 wr base A (3 * N) (3 * N) (fulS k f s j)
  dd : Blk wr DB 3 [.int .i64 D]
  ww : Blk wr WB 155 [.int .i64 k, .int .i64 f, Rv, Sv]
  ss : Blk wr SB 3 [.int .i64 s]
  pp : s < 2 → Blk wr PB 84 [.func (.func 144) #[] #[.pointer (some ⟨SB, 0, none⟩), .pointer (some ⟨DB, 0, none⟩)]]
  rr : Rd .i64 wr O N N (ordL D s)
  nn : blk A < blk O
  bb : Below w.heap.size w wr
def FiI (k f s N D WB DB SB PB base : Nat) (A O : Option Addr) (Rv Sv : Value) (w : World) (i : Value) (wr : World) : Prop := ∃ j : Nat, FiS k f s N D WB DB SB PB base A O Rv Sv w i wr j
theorem FiI.next {k f s N D WB DB SB PB base : Nat} {A O : Option Addr} {Rv Sv : Value} {w : World} {i : Value} {wr : World} {j : Nat} (h : FiS k f s N D WB DB SB PB base A O Rv Sv w i wr j) (hj : j < N) (hp : pS N s j < 3 * N)
    {u : Int} (hst : (fulS k f s j).set (pS N s j) u = fulS k f s (j + 1)) {v : Int} (hv : u = v) (hA : blk A ≠ DB ∧ blk A ≠ WB) (hS : blk A ≠ SB) (hP : s < 2 → blk A ≠ PB) (hb : w.heap.size ≤ blk A) :
    FiS k f s N D WB DB SB PB base A O Rv Sv w (.int .i64 ((j + 1 : Nat) : Int)) (wr.setCell (adr A (pS N s j)) (.int .i64 v)) (j + 1) := by
  have h2 := Own.set_ h.ow hp v
  have h3 := h2.1
  rw [← hv, hst, hv] at h3
  have ne : ∀ {B : Nat}, blk A ≠ B → some B ≠ some (blk A) := fun hne e => hne (Option.some.inj e).symm
  exact ⟨hj, rfl, h3, h.dd.grown h2.2 (ne hA.1), h.ww.grown h2.2 (ne hA.2), h.ss.grown h2.2 (ne hS), fun hs => (h.pp hs).grown h2.2 (ne (hP hs)), Rdv.grown h.rr h2.2 (fun _ => ne (by have := h.nn; omega)), h.nn, h.bb.grown h2.2 h.bb.size (fun k e => by cases e; exact hb)⟩
set_option maxRecDepth 100000 in
set_option maxHeartbeats 4000000 in
theorem full_any (k f : Nat) (Z : Int) (w : World) (h1k : 40 ≤ k) (h2k : k ≤ 6144) : Calls Tryz.prog 137 #[.agg #[.int .i64 k, .int .i64 f, .int .i64 (rwS (k + 4)), .int .i64 Z]] w fun e w' => ∃ A, e = .returned (.slice A (3 * nB k) (3 * nB k)) ∧ Own .i64 3 w' w.heap.size A (3 * nB k) (3 * nB k) (bufL k f) ∧ Below w.heap.size w w' := by
  have hR := rwS_le (d := k + 4) (by omega)
  have hN := nB_le h2k
  have hN1 := nB_pos (k := k)
  have HOR := Lib.hid (fun s (hs : s ≤ 2) W => order_ok (k + 4) s W (by omega) (by omega) hs)
  have HG := Lib.hid (fun s j (h : j < nB k) => ordL_gi (k + 4) s j h)
  have HBD := Lib.hid (fun s j => ordV_bd (d := k + 4) (s := s) (k := j) (by omega))
  have HSET := Lib.hid (fun s j (hs : s ≤ 2) (h : j < nB k) => fulS_set (k := k) (f := f) hs h)
  have HNXT := Lib.hid (fulS_next k f)
  have HALL := Lib.hid (fulS_all k f)
  have HNON := Lib.hid (fulS_none k f)
  have hNR : nB k = 32 * rwS (k + 4) := rfl
  simp only [← hNR] at HOR
  generalize nB k = N at *
  generalize rwS (k + 4) = R at *
  obtain ⟨D, hD⟩ : ∃ D, D = k + 4 := ⟨_, rfl⟩
  have HDK := Lib.hid hD
  rw [← hD] at HOR HG HBD HSET
  obtain ⟨WB, hWB⟩ : ∃ B, B = w.heap.size := ⟨_, rfl⟩
  obtain ⟨DB, hDB⟩ : ∃ B, B = w.heap.size + 1 := ⟨_, rfl⟩
  obtain ⟨W0, hW0⟩ : ∃ W, W = w.alloc (.cells #[.int .i64 k, .int .i64 f, .int .i64 R, .int .i64 Z] 155) := ⟨_, rfl⟩
  have hw0 : Blk W0 WB 155 [.int .i64 k, .int .i64 f, .int .i64 R, .int .i64 Z] := by rw [hW0, hWB]; exact Blk.new w [.int .i64 k, .int .i64 f, .int .i64 R, .int .i64 Z] 155 rfl
  have hb0 : Below w.heap.size w W0 := by rw [hW0]; exact bal (Below.refl _ w) _
  have hz0 : W0.heap.size = DB := by rw [hW0, hDB]; simp
  have HZ0 := Lib.hid hz0
  have HW0 := Lib.hid hW0
  have HWE := Lib.hid hWB
  have HW : Hid (W115 WB k R W0.drew) := Lib.hid ⟨hw0.cell (j := 0) rfl, hw0.cell (j := 2) rfl⟩
  have hk4 : (k : Int) + 4 = (D : Int) := by rw [hD]; push_cast; rfl
  have hnn : 32 * (R : Int) = (N : Int) := by omega
  have hwk : IntKind.i64.wrap ((k : Int) + 4) = (D : Int) := by rw [IntKind.wrap_i64]; omega
  have hwn : IntKind.i64.wrap (32 * (R : Int)) = (N : Int) := by rw [IntKind.wrap_i64]; omega
  have hwd : WB ≠ DB := by omega
  have HNR := Lib.hid hNR
  clear hW0 hWB hD hk4 hnn hNR
  go_enter Tryz.func137, Tryz.ntmps137
  go_wp2_with fail
  rw [← HWE.out, ← HW0.out]
  refine wp_nopanic ?_
  refine P_start (W115 WB k R) 8 9 #[false, false, false, false, false, false, false, false, false] (by kernel_rfl) (by kernel_rfl) (by kernel_rfl) ?_
  refine P_takeW 0 14 (.pointer (some ⟨WB, 0, none⟩)) #[true, false, false, false, false, false, false, false, false] rfl rfl (by kernel_rfl) (by kernel_rfl) (by kernel_rfl) (by kernel_rfl) (by decide) (fun _ _ _ h => h) (Or.inl ⟨by rfl, fun W hS => by go_simp⟩) HW.out ?_
  simp only [List.setIfInBounds_toArray, List.set_cons_zero, List.set_cons_succ]
  refine P_take 1 15 (.int .i64 (k : Int)) #[true, true, false, false, false, false, false, false, false] rfl rfl (by kernel_rfl) (by kernel_rfl) (by kernel_rfl) (by kernel_rfl) (by kernel_rfl) (by kernel_rfl) (by decide) (fun _ _ _ h => h) (Or.inl ⟨by rfl, fun W hS => by obtain ⟨s0, s1⟩ := hS; go_simp⟩) HW.out ?_
  simp only [List.setIfInBounds_toArray, List.set_cons_zero, List.set_cons_succ]
  refine P_takeW 2 16 (.int .i64 (D : Int)) #[true, true, true, false, false, false, false, false, false] rfl rfl (by kernel_rfl) (by kernel_rfl) (by kernel_rfl) (by kernel_rfl) (by decide) (fun _ _ _ h => h) (Or.inl ⟨by rfl, fun W hS => by go_simp⟩) HW.out ?_
  simp only [List.setIfInBounds_toArray, List.set_cons_zero, List.set_cons_succ]
  refine P_takeW 3 17 (.pointer (some ⟨WB, 2, none⟩)) #[true, true, true, true, false, false, false, false, false] rfl rfl (by kernel_rfl) (by kernel_rfl) (by kernel_rfl) (by kernel_rfl) (by decide) (fun _ _ _ h => h) (Or.inl ⟨by rfl, fun W hS => by go_simp⟩) HW.out ?_
  simp only [List.setIfInBounds_toArray, List.set_cons_zero, List.set_cons_succ]
  refine P_take 4 18 (.int .i64 (R : Int)) #[true, true, true, true, true, false, false, false, false] rfl rfl (by kernel_rfl) (by kernel_rfl) (by kernel_rfl) (by kernel_rfl) (by kernel_rfl) (by kernel_rfl) (by decide) (fun _ _ _ h => h) (Or.inl ⟨by rfl, fun W hS => by obtain ⟨s0, s1⟩ := hS; go_simp⟩) HW.out ?_
  simp only [List.setIfInBounds_toArray, List.set_cons_zero, List.set_cons_succ]
  refine P_takeW 5 19 (.int .i64 (N : Int)) #[true, true, true, true, true, true, false, false, false] rfl rfl (by kernel_rfl) (by kernel_rfl) (by kernel_rfl) (by kernel_rfl) (by decide) (fun _ _ _ h => h) (Or.inl ⟨by rfl, fun W hS => by go_simp⟩) HW.out ?_
  simp only [List.setIfInBounds_toArray, List.set_cons_zero, List.set_cons_succ]
  refine P_oneS 6 #[true, true, true, true, true, true, true, false, false] rfl (by kernel_rfl) (by kernel_rfl) rfl (fun K hK => ?_)
  go_simp
  refine hK _ _ (W115.alloc HW.out _) ?_
  clear hK K
  refine P_oneS 7 #[true, true, true, true, true, true, true, true, false] rfl (by kernel_rfl) (by kernel_rfl) rfl (fun K hK => ?_)
  go_simp
  refine hK _ _ (show W115 WB k R (W0.alloc (.cells #[.int .i64 D] 3)).drew from W115.alloc HW.out _) ?_
  clear hK K
  refine P_one 8 #[true, true, true, true, true, true, true, true, true] rfl (by kernel_rfl) (by kernel_rfl) rfl (by kernel_rfl) (fun K hK => ?_)
  go_simp
  refine hK _ _ ?_
  clear hK K
  refine P_done (by kernel_rfl) ?_ _
  refine noPanic_normal ?_
  obtain ⟨W1, hW1⟩ : ∃ W, W = (W0.alloc (.cells #[.int .i64 D] 3)).drew := ⟨_, rfl⟩
  have hq1 : Below W0.heap.size W0 W1 := by rw [hW1]; exact (bal (Below.refl _ W0) _).drew
  have HD1 := Lib.hid (show Blk W1 DB 3 [.int .i64 D] by rw [hW1, ← hz0]; exact Blk.drew (Blk.new W0 [.int .i64 D] 3 rfl))
  have HW1 := Lib.hid (hw0.below hq1)
  have HB1 := Lib.hid (hb0.trans (hq1.mono hb0.size))
  have HADW := Lib.hid (show w.heap.size + 1 < W1.heap.size by have := HD1.out.lt; omega)
  rw [← hW1, ← hDB]
  clear hW1 hq1 hw0 hb0 hz0 HW0 HW hDB hwd
  go_wp2_with (at_make; refine list_of rfl fun K hK => wp_mk (n := 3 * N) _ _ 60 rfl el34 rfl rfl (by omega) (by unfold maxLen; omega) ?_
               intro A w3 hO3 hB3 hA
               have HO3 := Lib.hid hO3
               have HA := Lib.hid hA
               have HB3 := Lib.hid hB3
               clear hO3 hB3 hA
               refine hK _ _ ?_
               clear hK K)
  obtain ⟨Rv, hRv⟩ : ∃ v, v = Value.int .i64 R := ⟨_, rfl⟩
  obtain ⟨Sv, hSv⟩ : ∃ v, v = Value.int .i64 Z := ⟨_, rfl⟩
  have hbA : W1.heap.size ≤ blk A ∧ blk A < w3.heap.size := Ownv.blk_ge HO3.out (by omega)
  have HAW := Lib.hid (show blk A ≠ DB ∧ blk A ≠ WB from ⟨by have := HD1.out.lt; omega, by have := HW1.out.lt; omega⟩)
  have HBA2 := Lib.hid (show w.heap.size ≤ blk A by have := HADW.out; omega)
  have HB9 := Lib.hid (HB1.out.trans (HB3.out.mono HB1.out.size))
  have HW9 : Hid (Blk w3 WB 155 [.int .i64 k, .int .i64 f, Rv, Sv]) := Lib.hid (by rw [hRv, hSv]; exact HW1.out.below HB3.out)
  have HD9 := Lib.hid (HD1.out.below HB3.out)
  have HBS := Lib.hid (show w.heap.size ≤ W1.heap.size by have := HADW.out; omega)
  clear hRv hSv hbA HB1 HB3 HW1 HD1 HADW
  generalize W1.heap.size = base at *
  go_loopw [23] (fun i wr => FoJ k f N D WB DB base A Rv Sv w i wr) (fun i _ => 3 - (intOf i).toNat)
  case atStart => exact ⟨0, by decide, rfl, Own.of_eq HO3.out rfl (by rw [HNON.out, List.map_replicate]), HD9.out, HW9.out, HB9.out⟩
  case round =>
    obtain ⟨s, hs, rfl, hO, hD, hW, hB⟩ := hrel
    have HO := Lib.hid hO
    have HDB := Lib.hid hD
    have HWB := Lib.hid hW
    have HB := Lib.hid hB
    have HBA := Lib.hid (Ownv.blk_ge hO (by omega)).2
    have HSW : Hid (WB < wr.heap.size ∧ DB < wr.heap.size) := Lib.hid ⟨hW.lt, hD.lt⟩
    clear hO hD hW hB HO3 HD9 HW9 HB9 HNON
    rcases (by omega : s = 0 ∨ s = 1 ∨ s = 2 ∨ s = 3) with rfl | rfl | rfl | rfl
    · have HIX := Lib.hid (fun (j : Nat) (h : j < N) => pS_lt (N := N) (s := 0) (j := j) (by decide) h)
      have hst := fun W m => run_store Tryz.prog W ⟨wr.heap.size + 1, 0, none⟩ (.func (.func 144) #[] #[.pointer (some ⟨wr.heap.size, 0, none⟩), .pointer (some ⟨DB, 0, none⟩)]) m rfl
      have hcD : ((wr.alloc (.cells #[.int .i64 0] 3)).alloc (.cells #[.func (.func 144) #[] #[.pointer (some ⟨wr.heap.size, 0, none⟩), .pointer (some ⟨DB, 0, none⟩)]] 84)).cell? ⟨DB, 0, none⟩ = some (.int .i64 D) := cell_below (HDB.out.cell rfl) (((Below.refl _ wr).alloc (Nat.le_refl _) _).alloc (by simp) _)
      go_wp2_with fail
      clear hcD
      clear hst
      obtain ⟨SB, hSB⟩ : ∃ B, B = wr.heap.size := ⟨_, rfl⟩
      obtain ⟨W2, hW2⟩ : ∃ W, W = (wr.alloc (.cells #[.int .i64 0] 3)).alloc (.cells #[.func (.func 144) #[] #[.pointer (some ⟨wr.heap.size, 0, none⟩), .pointer (some ⟨DB, 0, none⟩)]] 84) := ⟨_, rfl⟩
      have hq : Below wr.heap.size wr W2 := by rw [hW2]; exact ((Below.refl _ wr).alloc (Nat.le_refl _) _).alloc (by simp) _
      have hS2 : Blk W2 SB 3 [.int .i64 0] := by rw [hW2, hSB]; exact (Blk.new wr [.int .i64 0] 3 rfl).alloc _
      obtain ⟨PB, hPB⟩ : ∃ B, B = wr.heap.size + 1 := ⟨_, rfl⟩
      have hP2 : Blk W2 PB 84 [.func (.func 144) #[] #[.pointer (some ⟨SB, 0, none⟩), .pointer (some ⟨DB, 0, none⟩)]] := by rw [hW2, hSB, hPB]; exact Blk.new (wr.alloc _) [.func (.func 144) #[] #[.pointer (some ⟨wr.heap.size, 0, none⟩), .pointer (some ⟨DB, 0, none⟩)]] 84 (by simp)
      rw [← hW2, ← hPB, ← hSB]
      refine (HOR.out 0 (by decide) W2).mono ?_
      rintro e w3 ⟨O, rfl, hO3, hB3⟩
      have HK0 : Hid (FiI k f 0 N D WB DB SB PB base A O Rv Sv w (.int .i64 0) w3) := Lib.hid ⟨0, Nat.zero_le _, rfl, Ownv.below (Ownv.below HO.out hq) hB3, (HDB.out.below hq).below hB3, (HWB.out.below hq).below hB3, hS2.below hB3, fun _ => hP2.below hB3, Own.rd hO3, by have := HBA.out; have h4 := (Ownv.blk_ge hO3 (by omega)).1; have := hq.size; omega, HB.out.trans ((hq.trans (hB3.mono hq.size)).mono HB.out.size)⟩
      have hAS : blk A ≠ SB := by have := HBA.out; omega
      have hAP : blk A ≠ PB := by have := HBA.out; omega
      clear hq hS2 hW2 hO3 hB3 hSB hP2 hPB
      go_wp2
      go_loopw [39] (fun i wq => FiI k f 0 N D WB DB SB PB base A O Rv Sv w i wq) (fun i _ => N - (intOf i).toNat)
      case atStart => exact HK0.out
      case round =>
        clear HK0 HO HDB HWB HB
        obtain ⟨j, hj, rfl, hO, hD, hW, hS, hP, hR, hAO, hB⟩ := hrel
        by_cases hlt : j < N
        · have hco := Rd.cell hR hlt
          have hio := fun W => Rdv.ix hR el34 hlt .i64 W
          rw [HG.out 0 j hlt] at hco
          have hbd := HBD.out 0 j
          have HST := Lib.hid (HSET.out 0 j (by decide) hlt)
          have hpl := HIX.out j hlt
          have hca := Rd.cell (Own.rd hO) hpl
          have hfa := Ownv.frozen hO (by omega) (pS N 0 j)
          have hia := fun W => Rdv.ixI (Own.rd hO) el34 hpl .i64 ((j : Nat) : Int) (by unfold pS; simp; try omega) W
          have hcS := hS.cell (j := 0) (v := .int .i64 0) rfl
          have HNX := Lib.hid (fun v (hv : elV k f 0 (ordV D 0 j) = v) => FiI.next ⟨hj, rfl, hO, hD, hW, hS, hP, hR, hAO, hB⟩ hlt hpl (HST.out) hv HAW.out hAS (fun _ => hAP) HBA2.out)
          have HAT := Lib.hid (fun i h1 h2 => at1_any k f 0 WB PB SB DB Rv Sv i wr hW (hP (by decide)) hS (by rw [HDK.out] at hD; exact hD) (by decide) h2k h1 h2)
          clear hO hD hW hS hP hR hB
          generalize ordV D 0 j = v at *
          by_cases hv0 : 0 ≤ v
          · have hgv : decide (0 ≤ v) = true := by simp [hv0]
            have HA2 := Lib.hid (HAT.out v hv0 (by have := HDK.out; omega))
            have HN2 := Lib.hid (HNX.out _ rfl)
            clear HAT HNX
            generalize elV k f 0 v = ev at *
            go_wp2_with (go_at_call 145; refine HA2.out.mono ?_; rintro e w' ⟨rfl, rfl⟩)
            go_roundw
            case rel => exact ⟨j + 1, HN2.out⟩
            case measure => simp [intOf]; omega
          · have hgv : decide (0 ≤ v) = false := by simp; omega
            have hev : elV k f 0 v = -1 := by unfold elV; rw [if_pos (.inl (by omega))]
            have HN2 := Lib.hid (HNX.out _ hev)
            clear HAT HNX
            go_wp2
            go_roundw
            case rel => exact ⟨j + 1, HN2.out⟩
            case measure => simp [intOf]; omega
        · obtain rfl : j = N := by omega
          rw [HNXT.out] at hO
          have HO9 := Lib.hid hO
          have HD9 := Lib.hid hD
          have HW9 := Lib.hid hW
          have HB9 := Lib.hid hB
          clear hO hD hW hB hS hP hR
          go_wp2
          go_roundw
          case rel => exact ⟨0 + 1, by decide, by go_num, HO9.out, HD9.out, HW9.out, HB9.out⟩
          case measure => simp [intOf]
    · have HIX := Lib.hid (fun (j : Nat) (h : j < N) => pS_lt (N := N) (s := 1) (j := j) (by decide) h)
      have hst := fun W m => run_store Tryz.prog W ⟨wr.heap.size + 1, 0, none⟩ (.func (.func 144) #[] #[.pointer (some ⟨wr.heap.size, 0, none⟩), .pointer (some ⟨DB, 0, none⟩)]) m rfl
      have hcD : ((wr.alloc (.cells #[.int .i64 1] 3)).alloc (.cells #[.func (.func 144) #[] #[.pointer (some ⟨wr.heap.size, 0, none⟩), .pointer (some ⟨DB, 0, none⟩)]] 84)).cell? ⟨DB, 0, none⟩ = some (.int .i64 D) := cell_below (HDB.out.cell rfl) (((Below.refl _ wr).alloc (Nat.le_refl _) _).alloc (by simp) _)
      go_wp2_with fail
      clear hcD
      clear hst
      obtain ⟨SB, hSB⟩ : ∃ B, B = wr.heap.size := ⟨_, rfl⟩
      obtain ⟨W2, hW2⟩ : ∃ W, W = (wr.alloc (.cells #[.int .i64 1] 3)).alloc (.cells #[.func (.func 144) #[] #[.pointer (some ⟨wr.heap.size, 0, none⟩), .pointer (some ⟨DB, 0, none⟩)]] 84) := ⟨_, rfl⟩
      have hq : Below wr.heap.size wr W2 := by rw [hW2]; exact ((Below.refl _ wr).alloc (Nat.le_refl _) _).alloc (by simp) _
      have hS2 : Blk W2 SB 3 [.int .i64 1] := by rw [hW2, hSB]; exact (Blk.new wr [.int .i64 1] 3 rfl).alloc _
      obtain ⟨PB, hPB⟩ : ∃ B, B = wr.heap.size + 1 := ⟨_, rfl⟩
      have hP2 : Blk W2 PB 84 [.func (.func 144) #[] #[.pointer (some ⟨SB, 0, none⟩), .pointer (some ⟨DB, 0, none⟩)]] := by rw [hW2, hSB, hPB]; exact Blk.new (wr.alloc _) [.func (.func 144) #[] #[.pointer (some ⟨wr.heap.size, 0, none⟩), .pointer (some ⟨DB, 0, none⟩)]] 84 (by simp)
      rw [← hW2, ← hPB, ← hSB]
      refine (HOR.out 1 (by decide) W2).mono ?_
      rintro e w3 ⟨O, rfl, hO3, hB3⟩
      have HK0 : Hid (FiI k f 1 N D WB DB SB PB base A O Rv Sv w (.int .i64 0) w3) := Lib.hid ⟨0, Nat.zero_le _, rfl, Ownv.below (Ownv.below HO.out hq) hB3, (HDB.out.below hq).below hB3, (HWB.out.below hq).below hB3, hS2.below hB3, fun _ => hP2.below hB3, Own.rd hO3, by have := HBA.out; have h4 := (Ownv.blk_ge hO3 (by omega)).1; have := hq.size; omega, HB.out.trans ((hq.trans (hB3.mono hq.size)).mono HB.out.size)⟩
      have hAS : blk A ≠ SB := by have := HBA.out; omega
      have hAP : blk A ≠ PB := by have := HBA.out; omega
      clear hq hS2 hW2 hO3 hB3 hSB hP2 hPB
      go_wp2
      go_loopw [39] (fun i wq => FiI k f 1 N D WB DB SB PB base A O Rv Sv w i wq) (fun i _ => N - (intOf i).toNat)
      case atStart => exact HK0.out
      case round =>
        clear HK0 HO HDB HWB HB
        obtain ⟨j, hj, rfl, hO, hD, hW, hS, hP, hR, hAO, hB⟩ := hrel
        by_cases hlt : j < N
        · have hco := Rd.cell hR hlt
          have hio := fun W => Rdv.ix hR el34 hlt .i64 W
          rw [HG.out 1 j hlt] at hco
          have hbd := HBD.out 1 j
          have HST := Lib.hid (HSET.out 1 j (by decide) hlt)
          have hpl := HIX.out j hlt
          have hca := Rd.cell (Own.rd hO) hpl
          have hfa := Ownv.frozen hO (by omega) (pS N 1 j)
          have hia := fun W => Rdv.ixI (Own.rd hO) el34 hpl .i64 (((N : Nat) : Int) + 2 * (j : Int)) (by unfold pS; simp; try omega) W
          have hcS := hS.cell (j := 0) (v := .int .i64 1) rfl
          have HNX := Lib.hid (fun v (hv : elV k f 1 (ordV D 1 j) = v) => FiI.next ⟨hj, rfl, hO, hD, hW, hS, hP, hR, hAO, hB⟩ hlt hpl (HST.out) hv HAW.out hAS (fun _ => hAP) HBA2.out)
          have HAT := Lib.hid (fun i h1 h2 => at1_any k f 1 WB PB SB DB Rv Sv i wr hW (hP (by decide)) hS (by rw [HDK.out] at hD; exact hD) (by decide) h2k h1 h2)
          clear hO hD hW hS hP hR hB
          generalize ordV D 1 j = v at *
          by_cases hv0 : 0 ≤ v
          · have hgv : decide (0 ≤ v) = true := by simp [hv0]
            have HA2 := Lib.hid (HAT.out v hv0 (by have := HDK.out; omega))
            have HN2 := Lib.hid (HNX.out _ rfl)
            clear HAT HNX
            generalize elV k f 1 v = ev at *
            go_wp2_with (go_at_call 145; refine HA2.out.mono ?_; rintro e w' ⟨rfl, rfl⟩)
            go_roundw
            case rel => exact ⟨j + 1, HN2.out⟩
            case measure => simp [intOf]; omega
          · have hgv : decide (0 ≤ v) = false := by simp; omega
            have hev : elV k f 1 v = -1 := by unfold elV; rw [if_pos (.inl (by omega))]
            have HN2 := Lib.hid (HNX.out _ hev)
            clear HAT HNX
            go_wp2
            go_roundw
            case rel => exact ⟨j + 1, HN2.out⟩
            case measure => simp [intOf]; omega
        · obtain rfl : j = N := by omega
          rw [HNXT.out] at hO
          have HO9 := Lib.hid hO
          have HD9 := Lib.hid hD
          have HW9 := Lib.hid hW
          have HB9 := Lib.hid hB
          clear hO hD hW hB hS hP hR
          go_wp2
          go_roundw
          case rel => exact ⟨1 + 1, by decide, by go_num, HO9.out, HD9.out, HW9.out, HB9.out⟩
          case measure => simp [intOf]
    · have HIX := Lib.hid (fun (j : Nat) (h : j < N) => pS_lt (N := N) (s := 2) (j := j) (by decide) h)
      skip
      have hcD : (wr.alloc (.cells #[.int .i64 2] 3)).cell? ⟨DB, 0, none⟩ = some (.int .i64 D) := cell_below (HDB.out.cell rfl) ((Below.refl _ wr).alloc (Nat.le_refl _) _)
      go_wp2_with fail
      clear hcD
      skip
      obtain ⟨SB, hSB⟩ : ∃ B, B = wr.heap.size := ⟨_, rfl⟩
      obtain ⟨W2, hW2⟩ : ∃ W, W = wr.alloc (.cells #[.int .i64 2] 3) := ⟨_, rfl⟩
      have hq : Below wr.heap.size wr W2 := by rw [hW2]; exact (Below.refl _ wr).alloc (Nat.le_refl _) _
      have hS2 : Blk W2 SB 3 [.int .i64 2] := by rw [hW2, hSB]; exact Blk.new wr [.int .i64 2] 3 rfl
      rw [← hW2, ← hSB]
      refine (HOR.out 2 (by decide) W2).mono ?_
      rintro e w3 ⟨O, rfl, hO3, hB3⟩
      have HK0 : Hid (FiI k f 2 N D WB DB SB SB base A O Rv Sv w (.int .i64 0) w3) := Lib.hid ⟨0, Nat.zero_le _, rfl, Ownv.below (Ownv.below HO.out hq) hB3, (HDB.out.below hq).below hB3, (HWB.out.below hq).below hB3, hS2.below hB3, fun h => absurd h (by decide), Own.rd hO3, by have := HBA.out; have h4 := (Ownv.blk_ge hO3 (by omega)).1; have := hq.size; omega, HB.out.trans ((hq.trans (hB3.mono hq.size)).mono HB.out.size)⟩
      have hAS : blk A ≠ SB := by have := HBA.out; omega
      clear hq hS2 hW2 hO3 hB3 hSB 
      go_wp2
      go_loopw [39] (fun i wq => FiI k f 2 N D WB DB SB SB base A O Rv Sv w i wq) (fun i _ => N - (intOf i).toNat)
      case atStart => exact HK0.out
      case round =>
        clear HK0 HO HDB HWB HB
        obtain ⟨j, hj, rfl, hO, hD, hW, hS, hP, hR, hAO, hB⟩ := hrel
        by_cases hlt : j < N
        · have hco := Rd.cell hR hlt
          have hio := fun W => Rdv.ix hR el34 hlt .i64 W
          rw [HG.out 2 j hlt] at hco
          have hbd := HBD.out 2 j
          have HST := Lib.hid (HSET.out 2 j (by decide) hlt)
          have hpl := HIX.out j hlt
          have hca := Rd.cell (Own.rd hO) hpl
          have hfa := Ownv.frozen hO (by omega) (pS N 2 j)
          have hia := fun W => Rdv.ixI (Own.rd hO) el34 hpl .i64 (((N : Nat) : Int) + 2 * (j : Int) + 2 - 1) (by unfold pS; simp; try omega) W
          have hcS := hS.cell (j := 0) (v := .int .i64 2) rfl
          have HNX := Lib.hid (fun v (hv : elV k f 2 (ordV D 2 j) = v) => FiI.next ⟨hj, rfl, hO, hD, hW, hS, hP, hR, hAO, hB⟩ hlt hpl (HST.out) hv HAW.out hAS (fun h => absurd h (by decide)) HBA2.out)
          have HAT := Lib.hid (fun i h1 h2 => at0_any 2 D SB DB i wr hS hD (by decide) (by have := HDK.out; omega) h1 h2)
          clear hO hD hW hS hP hR hB
          generalize ordV D 2 j = v at *
          by_cases hv0 : 0 ≤ v
          · have hgv : decide (0 ≤ v) = true := by simp [hv0]
            have HA2 := Lib.hid (HAT.out v hv0 (by have := HDK.out; omega))
            rw [HDK.out, at_lo (k := k) (f := f) (s := 2) hv0 (fun h => absurd h (by decide))] at HA2
            have HN2 := Lib.hid (HNX.out _ rfl)
            clear HAT HNX
            generalize elV k f 2 v = ev at *
            go_wp2_with (go_at_call 144; refine HA2.out.mono ?_; rintro e w' ⟨rfl, rfl⟩)
            go_roundw
            case rel => exact ⟨j + 1, HN2.out⟩
            case measure => simp [intOf]; omega
          · have hgv : decide (0 ≤ v) = false := by simp; omega
            have hev : elV k f 2 v = -1 := by unfold elV; rw [if_pos (.inl (by omega))]
            have HN2 := Lib.hid (HNX.out _ hev)
            clear HAT HNX
            go_wp2
            go_roundw
            case rel => exact ⟨j + 1, HN2.out⟩
            case measure => simp [intOf]; omega
        · obtain rfl : j = N := by omega
          rw [HNXT.out] at hO
          have HO9 := Lib.hid hO
          have HD9 := Lib.hid hD
          have HW9 := Lib.hid hW
          have HB9 := Lib.hid hB
          clear hO hD hW hB hS hP hR
          go_wp2
          go_roundw
          case rel => exact ⟨2 + 1, by decide, by go_num, HO9.out, HD9.out, HW9.out, HB9.out⟩
          case measure => simp [intOf]
    · rw [HALL.out] at HO
      go_wp2
      go_ret
      exact ⟨A, rfl, Ownv.mono HO.out HBS.out, HB.out⟩
end Go.Proofs.YtcbbkflnenkpgaaGreat

namespace Go.Proofs.YtcbbkflnenkpgaaGreat
open Go.RowKit
set_option linter.unusedVariables false
theorem info122 : (Tryz.prog.info? 155).map (·.size) = some 4 := by kernel_rfl
theorem res122 {W : World} {b : Nat} {m : List Int} (h : Blk W b 155 (ints8 m)) (hl : m.length = 4) : (loadVar 155 ⟨b, 0, none⟩).run Tryz.prog W = .ok (.agg (ints8 m).toArray) W :=
  run_loadVar_row (P := Tryz.prog) W b 155 155 _ (0, 0) _ h Tryz.underlying155 rfl (by rw [info122]; simp [ints8, hl])
theorem szB_bd (k : Nat) {lim : Int} (h : 1 ≤ lim) : 1 ≤ szB k lim ∧ szB k lim ≤ 3 * nB k := by
  have := nB_pos (k := k)
  unfold szB
  split <;> omega
set_option maxRecDepth 100000 in
set_option maxHeartbeats 1000000 in
theorem rof_ok (k f : Nat) (lim : Int) (w : World) (h1 : 40 ≤ k) (h2 : k ≤ 6144) (hf : f < k) (hl : 1 ≤ lim) : Calls Tryz.prog 110 #[.int .i64 k, .int .i64 f, .int .i64 lim] w fun e w' => e = .returned (.tuple #[.agg #[.int .i64 k, .int .i64 f, .int .i64 (rwS (k + 4)), .int .i64 (szB k lim)], .int .i64 0]) ∧ Below w.heap.size w w' := by
  have HR := Lib.hid (fun W => crows_any (k + 4) W (by omega) (by omega))
  have hsz : szB k lim = if lim ≤ ((3 * nB k : Nat) : Int) then lim.toNat else 3 * nB k := rfl
  have hN := nB_le h2
  have hNR : nB k = 32 * rwS (k + 4) := rfl
  generalize szB k lim = Z at *
  generalize nB k = N at *
  generalize rwS (k + 4) = R at *
  push_cast at HR
  have q1 : decide ((k : Int) < 40) = false := by simp; omega
  have q2 : decide ((6144 : Int) < (k : Int)) = false := by simp; omega
  have q3 : decide ((f : Int) < 0) = false := by simp
  have q4 : decide ((k : Int) ≤ (f : Int)) = false := by simp; omega
  have q5 : decide (lim < 1) = false := by simp; omega
  have hmin : min lim (96 * (R : Int)) = (Z : Int) := by rw [hsz]; split <;> omega
  have hwm : IntKind.i64.wrap (96 * (R : Int)) = 96 * (R : Int) := by rw [IntKind.wrap_i64]; omega
  by_cases hlim : lim ≤ 96 * (R : Int)
  · have hz : lim = (Z : Int) := by rw [hsz]; split <;> omega
    clear hsz hNR hmin
    go_enter Tryz.func110, Tryz.ntmps110
    go_wp2_with (go_at_call 136; refine (HR.out _).mono ?_; rintro e w1 ⟨rfl, rfl⟩)
    refine bodyPost_ret (v := .tuple #[.agg #[.int .i64 k, .int .i64 f, .int .i64 R, .int .i64 Z], .int .i64 0]) ?_ rfl ⟨rfl, bal (Below.refl _ w) _⟩
    have l1 := res122 (m := [(k : Int), f, R, Z]) (Blk.new w (ints8 [(k : Int), f, R, Z]) 155 rfl) rfl
    simp only [ints8, List.map_cons, List.map_nil] at l1
    rw [results_ct rfl]
    simp [Act.put, asAddr, l1, Sem.run_pure, Result.andThen]
  · have hz : 96 * (R : Int) = (Z : Int) := by rw [hsz]; split <;> omega
    have hlz : (Z : Int) < lim := by omega
    have hZb : Z ≤ 20000 := by omega
    clear hlim
    clear hsz hNR hmin
    go_enter Tryz.func110, Tryz.ntmps110
    go_wp2_with (go_at_call 136; refine (HR.out _).mono ?_; rintro e w1 ⟨rfl, rfl⟩)
    refine bodyPost_ret (v := .tuple #[.agg #[.int .i64 k, .int .i64 f, .int .i64 R, .int .i64 Z], .int .i64 0]) ?_ rfl ⟨rfl, bal (Below.refl _ w) _⟩
    have l1 := res122 (m := [(k : Int), f, R, Z]) (Blk.new w (ints8 [(k : Int), f, R, Z]) 155 rfl) rfl
    simp only [ints8, List.map_cons, List.map_nil] at l1
    rw [results_ct rfl]
    simp [Act.put, asAddr, l1, Sem.run_pure, Result.andThen]
set_option maxRecDepth 100000 in
theorem buf0_ok (k f Z : Nat) (w : World) (h1 : 40 ≤ k) (h2 : k ≤ 6144) (hZ : Z ≤ 3 * nB k) : Calls Tryz.prog 111 #[.agg #[.int .i64 k, .int .i64 f, .int .i64 (rwS (k + 4)), .int .i64 Z]] w fun e w' => ∃ A, e = .returned (.slice A Z (3 * nB k)) ∧ Rd .i64 w' A Z (3 * nB k) ((bufL k f).take Z) ∧ Below w.heap.size w w' := by
  have HF := Lib.hid (fun W => full_any k f Z W h1 h2)
  have hN := nB_le h2
  generalize nB k = N at *
  generalize rwS (k + 4) = R at *
  obtain ⟨WB, hWB⟩ : ∃ B, B = w.heap.size := ⟨_, rfl⟩
  obtain ⟨W0, hW0⟩ : ∃ W, W = w.alloc (.cells #[.int .i64 k, .int .i64 f, .int .i64 R, .int .i64 Z] 155) := ⟨_, rfl⟩
  have hw0 : Blk W0 WB 155 [.int .i64 k, .int .i64 f, .int .i64 R, .int .i64 Z] := by rw [hW0, hWB]; exact Blk.new w [.int .i64 k, .int .i64 f, .int .i64 R, .int .i64 Z] 155 rfl
  have hb0 : Below w.heap.size w W0 := by rw [hW0]; exact bal (Below.refl _ w) _
  have HW := Lib.hid (hw0.drew)
  go_enter Tryz.func111, Tryz.ntmps111
  go_wp2_with fail
  rw [← hWB, ← hW0]
  clear hWB hW0 hw0
  refine wp_nopanic ?_
  refine P_start (fun W => Blk W WB 155 [.int .i64 k, .int .i64 f, .int .i64 R, .int .i64 Z]) 5 6 #[false, false, false, false, false, false] (by kernel_rfl) (by kernel_rfl) (by kernel_rfl) ?_
  refine P_take 0 3 (.agg #[.int .i64 k, .int .i64 f, .int .i64 R, .int .i64 Z]) #[true, false, false, false, false, false] rfl rfl (by kernel_rfl) (by kernel_rfl) (by kernel_rfl) (by kernel_rfl) (by kernel_rfl) (by kernel_rfl) (by decide) (fun _ _ _ h => h) (yieldsIf_load_mid rfl 155 (.tmp 1) rfl WB 0 rfl [.int .i64 k, .int .i64 f, .int .i64 R, .int .i64 Z] _ (fun W hS j v hj => by rw [Nat.zero_add]; exact Blk.cell hS hj) Tryz.underlying155 rfl info122) HW.out ?_
  simp only [List.setIfInBounds_toArray, List.set_cons_zero, List.set_cons_succ]
  refine P_takeW 2 5 (.pointer (some ⟨WB, 3, none⟩)) #[true, false, true, false, false, false] rfl rfl (by kernel_rfl) (by kernel_rfl) (by kernel_rfl) (by kernel_rfl) (by decide) (fun _ _ _ h => h) (Or.inl ⟨by rfl, fun W hS => by go_simp⟩) HW.out ?_
  simp only [List.setIfInBounds_toArray, List.set_cons_zero, List.set_cons_succ]
  refine P_take 3 6 (.int .i64 (Z : Int)) #[true, false, true, true, false, false] rfl rfl (by kernel_rfl) (by kernel_rfl) (by kernel_rfl) (by kernel_rfl) (by kernel_rfl) (by kernel_rfl) (by decide) (fun _ _ _ h => h) (Or.inl ⟨by rfl, fun W hS => by have s0 := Blk.cell hS (j := 3) (v := .int .i64 Z) rfl; go_simp⟩) HW.out ?_
  simp only [List.setIfInBounds_toArray, List.set_cons_zero, List.set_cons_succ]
  refine P_oneS 1 #[true, true, true, true, false, false] rfl (by kernel_rfl) (by kernel_rfl) rfl (fun K hK => ?_)
  go_simp
  refine (HF.out _).mono ?_
  rintro e w5 ⟨A, rfl, hO5, hB5⟩
  have hB5' := (Below.refl w.heap.size W0).drew.trans (hB5.mono (by have := hb0.size; exact this))
  have HW5 := Lib.hid (HW.out.below hB5)
  have HO5 := Lib.hid hO5
  have HB5 := Lib.hid (hb0.trans hB5')
  have hsl := fun W => Rdv.slh (Own.rd hO5) el34 .i64 (m := Z) (by omega) W
  clear hO5 hB5 hB5'
  refine hK _ _ HW5.out ?_
  clear hK K
  refine P_takeW 4 7 (.slice A Z (3 * N)) #[true, true, true, true, true, false] rfl rfl (by kernel_rfl) (by kernel_rfl) (by kernel_rfl) (by kernel_rfl) (by decide) (fun _ _ _ h => h) (Or.inl ⟨by rfl, fun W hS => by go_simp⟩) HW5.out ?_
  simp only [List.setIfInBounds_toArray, List.set_cons_zero, List.set_cons_succ]
  refine P_one 5 #[true, true, true, true, true, true] rfl (by kernel_rfl) (by kernel_rfl) rfl (by kernel_rfl) (fun K hK => ?_)
  go_simp
  refine hK _ _ ?_
  clear hK K
  refine P_done (by kernel_rfl) ?_ _
  refine noPanic_normal ?_
  go_wp2
  go_ret
  exact ⟨A, rfl, Rd.upto (Own.rd HO5.out) (by omega), HB5.out⟩
theorem cloneI_any (A : Option Addr) (n c : Nat) (xs : List Int) (w : World) (h : Rd .i64 w A n c xs) (hn : n ≤ 200000) :
    Calls Tryz.prog 65 #[.slice A n c] w fun e w' => ∃ A' c', e = .returned (.slice A' n c') ∧ Own .i64 3 w' w.heap.size A' n c' xs ∧ Below w.heap.size w w' := by
  have e1 := fun W => Lib.run_eql_slice_nil (P := Tryz.prog) W 60 3 A n c 0 0 el34.u
  cases A with
  | none =>
    have hc := h.nil rfl
    have hnc := h.le
    obtain rfl : n = 0 := by omega
    subst hc
    obtain rfl : xs = [] := List.eq_nil_of_length_eq_zero h.len
    go_enter Tryz.func65, Tryz.ntmps65
    go_wp2
    go_ret
    exact ⟨none, 0, rfl, Own.nilv .i64 3 w _, Below.refl _ _⟩
  | some ad =>
    have h1 := Rdv.alloc h (.cells #[] 3)
    have hO0 : Ownv 3 (w.alloc (.cells #[] 3)) w.heap.size (some ⟨w.heap.size, 0, none⟩) 0 0 [] := Ownv.lit w #[] 3 rfl (Nat.le_refl _) (Nat.zero_le _)
    go_enter Tryz.func65, Tryz.ntmps65
    go_wp2_with (at_builtin; go_loud (refine list_of rfl fun K hK => wp_app _ _ 60 rfl el34 rfl rfl hO0 h1 (oneCell_ints .i64 xs) (by omega) (by unfold maxLen; omega) (by simp) ?_); intro A' c' w' hO hg; refine hK _ _ ?_; clear hK K)
    go_ret
    exact ⟨A', c', ret_sl rfl rfl rfl, Own.of_eq hO (Nat.zero_add n) (List.nil_append _), (Below.refl _ _).grown (grownBy_of_alloc hg) (Nat.le_refl _) (by simp [Value.ownBlock])⟩
set_option maxRecDepth 100000 in
theorem buffer_ok (k f : Nat) (lim : Int) (w : World) (h1 : 40 ≤ k) (h2 : k ≤ 6144) (hf : f < k) (hl : 1 ≤ lim) : Calls Tryz.prog 106 #[.int .i64 k, .int .i64 f, .int .i64 lim] w fun e w' => ∃ A c, e = .returned (.tuple #[.slice A (szB k lim) c, .int .i64 0]) ∧ Own .i64 3 w' w.heap.size A (szB k lim) c ((bufL k f).take (szB k lim)) ∧ Below w.heap.size w w' := by
  have HOF := Lib.hid (fun W => rof_ok k f lim W h1 h2 hf hl)
  have hzb := szB_bd k hl
  have HBF := Lib.hid (fun W => buf0_ok k f (szB k lim) W h1 h2 hzb.2)
  have hN := nB_le h2
  generalize szB k lim = Z at *
  generalize nB k = N at *
  generalize rwS (k + 4) = R at *
  go_enter Tryz.func106, Tryz.ntmps106
  go_wp2_with fail
  refine (HOF.out _).mono ?_
  rintro e w1 ⟨rfl, hB1⟩
  have HL := Lib.hid (Blk.new w1 [.int .i64 k, .int .i64 f, .int .i64 R, .int .i64 Z] 155 rfl)
  have HB1 := Lib.hid (bal hB1 (.cells #[.int .i64 k, .int .i64 f, .int .i64 R, .int .i64 Z] 155))
  have hL := HL.out
  clear hB1
  go_wp2_with (refine ldrow (cs := [.int .i64 k, .int .i64 f, .int .i64 R, .int .i64 Z]) rfl 155 (.tmp 8) rfl rfl hL _ Tryz.underlying155 rfl info122 ?_)
  clear hL
  refine (HBF.out _).mono ?_
  rintro e w2 ⟨A, rfl, hR, hB2⟩
  have HR := Lib.hid hR
  have HB2 := Lib.hid (HB1.out.trans (hB2.mono HB1.out.size))
  clear hR hB2
  go_wp2_with fail
  refine (cloneI_any A Z _ _ w2 HR.out (by omega)).mono ?_
  rintro e w3 ⟨A', c', rfl, hO, hB3⟩
  have HO := Lib.hid hO
  have HB3 := Lib.hid (HB2.out.trans (hB3.mono HB2.out.size))
  have HS := Lib.hid HB2.out.size
  clear hO hB3
  go_wp2
  go_ret2
  exact ⟨A', c', rfl, Ownv.mono HO.out HS.out, HB3.out⟩
end Go.Proofs.YtcbbkflnenkpgaaGreat

namespace Go.Proofs.YtcbbkflnenkpgaaGreat
open Go.RowKit
set_option linter.unusedVariables false
theorem cl86_any (x : Int) (w : World) : Calls Tryz.prog 108 #[.int .i64 x] w fun e w' => e = .returned (.bool (decide (x < 0))) ∧ w = w' := by
  have H87 : ∀ W, Calls Tryz.prog 109 #[.int .i64 x] W fun e w' => e = .returned (.bool (decide (0 ≤ x))) ∧ W = w' := by
    intro W
    go_enter Tryz.func109, Tryz.ntmps109
    go_wp2
    go_ret
    exact ⟨rfl, by trivial⟩
  have hd : (!decide (0 ≤ x)) = decide (x < 0) := by
    by_cases h : 0 ≤ x
    · rw [decide_eq_true h, decide_eq_false (by omega)]; rfl
    · rw [decide_eq_false h, decide_eq_true (by omega)]; rfl
  have HD := Lib.hid hd
  clear hd
  go_enter Tryz.func108, Tryz.ntmps108
  go_wp2_with fail
  refine (H87 _).mono ?_
  rintro e w' ⟨rfl, rfl⟩
  by_cases h : 0 ≤ x
  · have q : decide (0 ≤ x) = true := decide_eq_true h
    rw [q]
    go_wp2
    go_ret
    exact ⟨ret_bool (decide_eq_false (by omega)).symm, by trivial⟩
  · have q : decide (0 ≤ x) = false := decide_eq_false h
    rw [q]
    go_wp2
    go_ret
    exact ⟨ret_bool (decide_eq_true (by omega)).symm, by trivial⟩
def IxP (n : Nat) (xs : List Int) (r : Int) : Prop := (r = -1 ∧ ∀ j, j < n → 0 ≤ gi xs j) ∨ (∃ i : Nat, r = (i : Int) ∧ i < n ∧ gi xs i < 0 ∧ ∀ j, j < i → 0 ≤ gi xs j)
def IxI (w : World) (n : Nat) (xs : List Int) (i : Value) (wr : World) : Prop := ∃ j : Nat, j ≤ n ∧ i = .int .i64 j ∧ (∀ q, q < j → 0 ≤ gi xs q) ∧ w = wr
set_option maxRecDepth 100000 in
theorem ixf_any (A : Option Addr) (n c : Nat) (xs : List Int) (w : World) (hx : Rd .i64 w A n c xs) (hn : n ≤ 100000) : Calls Tryz.prog 135 #[.slice A n c, .func (.func 108) #[] #[]] w fun e w' => ∃ r : Int, e = .returned (.int .i64 r) ∧ IxP n xs r ∧ w = w' := by
  go_enter Tryz.func135, Tryz.ntmps135
  go_wp2
  go_loopw [8] (fun i wr => IxI w n xs i wr) (fun i _ => n - (intOf i).toNat)
  case atStart => exact ⟨0, Nat.zero_le _, rfl, fun q hq => by omega, rfl⟩
  case round =>
    obtain ⟨j, hj, rfl, hall, rfl⟩ := hrel
    have HALL := Lib.hid hall
    clear hall
    by_cases hlt : j < n
    · have hc := Rd.cell hx hlt
      have hix := fun W => Rdv.ix hx el34 hlt .i64 W
      have HP := Lib.hid (fun r => show IxP n xs r ↔ _ from Iff.rfl)
      obtain ⟨x, hxe⟩ : ∃ x, x = gi xs j := ⟨_, rfl⟩
      have HXE := Lib.hid hxe
      rw [← hxe] at hc
      clear hxe
      by_cases h0 : x < 0
      · have HC := Lib.hid (cl86_any x w)
        rw [decide_eq_true h0] at HC
        go_wp2_with (go_at_call 108; refine HC.out.mono ?_; rintro e w' ⟨rfl, rfl⟩)
        go_ret
        exact ⟨_, rfl, .inr ⟨j, rfl, hlt, by rw [← HXE.out]; exact h0, HALL.out⟩, by trivial⟩
      · have HC := Lib.hid (cl86_any x w)
        rw [decide_eq_false h0] at HC
        go_wp2_with (go_at_call 108; refine HC.out.mono ?_; rintro e w' ⟨rfl, rfl⟩)
        go_roundw
        case rel => exact ⟨j + 1, by omega, by go_num, fun q hq => lt_succ_cases HALL.out (by rw [← HXE.out]; omega) q hq, by trivial⟩
        case measure => simp [intOf]; omega
    · obtain rfl : j = n := by omega
      go_wp2
      go_ret
      exact ⟨_, rfl, .inl ⟨rfl, HALL.out⟩, by trivial⟩
theorem usC_all {xs : List Int} : ∀ n, n ≤ xs.length → (∀ j, j < n → 0 ≤ gi xs j) → usC (xs.take n) = n
  | 0, _, _ => rfl
  | n + 1, h, ha => by
    rw [List.take_succ_eq_append_getElem (by omega), usC_snoc, usC_all n (by omega) (fun j hj => ha j (by omega)), if_pos (by have := ha n (by omega); rwa [gi_eq _ _ (by omega)] at this)]
theorem usC_lt {xs : List Int} {i : Nat} (hi : i < xs.length) (h : gi xs i < 0) : usC xs < xs.length := by
  unfold usC
  rw [List.length_filter_lt_length_iff_exists]
  refine ⟨xs[i], List.getElem_mem hi, ?_⟩
  rw [← gi_eq _ _ hi]
  simp; omega
theorem usC_step {xs : List Int} {j : Nat} (hj : j < xs.length) : usC (xs.take (j + 1)) = usC (xs.take j) + if 0 ≤ gi xs j then 1 else 0 := by
  rw [List.take_succ_eq_append_getElem hj, usC_snoc, gi_eq _ _ hj]
def DeI (w : World) (base n c : Nat) (A : Option Addr) (xs : List Int) (u i : Value) (wr : World) : Prop := ∃ (j : Nat) (cur : List Int), j ≤ n ∧ i = .int .i64 j ∧ u = .int .i64 (usC (xs.take j)) ∧ Own .i64 3 wr base A n c cur ∧ (∀ q, j ≤ q → q < n → gi cur q = gi xs q) ∧ Below base w wr
set_option maxRecDepth 100000 in
set_option maxHeartbeats 1000000 in
theorem delf_any (A : Option Addr) (n c base : Nat) (xs : List Int) (w : World) (hx : Own .i64 3 w base A n c xs) (hn : n ≤ 100000) (hb : base ≤ w.heap.size) : Calls Tryz.prog 107 #[.slice A n c, .func (.func 108) #[] #[]] w fun e w' => ∃ A' c', e = .returned (.slice A' (usC xs) c') ∧ Below base w w' := by
  have hl := (Own.rd hx).len
  have HIX := Lib.hid (ixf_any A n c xs w (Own.rd hx) hn)
  obtain ⟨uu, huu⟩ : ∃ u, u = usC xs := ⟨_, rfl⟩
  rw [← huu]
  have HUU := Lib.hid huu
  clear huu
  have HX := Lib.hid hx
  clear hx
  go_enter Tryz.func107, Tryz.ntmps107
  go_wp2_with fail
  refine HIX.out.mono ?_
  rintro e w' ⟨r, rfl, hr, rfl⟩
  clear HIX
  rcases hr with ⟨rfl, hall⟩ | ⟨i0, rfl, hi0, hneg, hall⟩
  · have hu : usC xs = n := by have := usC_all n (by omega) hall; rwa [List.take_of_length_le (by omega)] at this
    go_wp2
    go_ret
    exact ⟨A, c, by rw [HUU.out, hu]; rfl, Below.refl _ _⟩
  · have hq0 : ((i0 : Int) == -1) = false := beq_f (by omega)
    have hu0 : usC (xs.take (i0 + 1)) = i0 := by rw [usC_step (by omega), usC_all i0 (by omega) hall, if_neg (by omega), Nat.add_zero]
    have HLT := Lib.hid (usC_lt (by omega : i0 < xs.length) hneg)
    clear hneg hall
    go_wp2
    go_loopw [5, 6] (fun u i wr => DeI w base n c A xs u i wr) (fun _ i _ => n - (intOf i).toNat)
    case atStart => exact ⟨i0 + 1, xs, by omega, by go_num, by rw [hu0], HX.out, fun q _ _ => rfl, Below.refl _ _⟩
    case round =>
      obtain ⟨j, cur, hj, rfl, rfl, hO, hsame, hB⟩ := hrel
      clear HX hu0
      have hO' := hO
      have HB := Lib.hid hB
      by_cases hlt : j < n
      · have hc := Rd.cell (Own.rd hO) hlt
        have hix := fun W => Rdv.ix (Own.rd hO) el34 hlt .i64 W
        rw [hsame j (Nat.le_refl _) hlt] at hc
        have HST := Lib.hid (usC_step (xs := xs) (j := j) (by omega))
        have hul : usC (xs.take j) ≤ j := by have := usC_le (xs.take j); rw [List.length_take] at this; omega
        have HSM := Lib.hid hsame
        obtain ⟨x, hxe⟩ : ∃ x, x = gi xs j := ⟨_, rfl⟩
        rw [← hxe] at hc HST
        clear hsame hxe
        generalize usC (xs.take j) = u at *
        by_cases h0 : x < 0
        · have HC := Lib.hid (cl86_any x wr)
          rw [decide_eq_true h0] at HC
          have HO := Lib.hid hO
          clear hO hO' hB
          go_wp2_with (go_at_call 108; refine HC.out.mono ?_; rintro e w' ⟨rfl, rfl⟩)
          go_roundw
          case rel => exact ⟨j + 1, cur, by omega, by go_num, by rw [HST.out, if_neg (by omega)]; rfl, HO.out, fun q h1 h2 => HSM.out q (by omega) h2, HB.out⟩
          case measure => simp [intOf]; omega
        · have HC := Lib.hid (cl86_any x wr)
          rw [decide_eq_false h0] at HC
          have huj : u < n := by omega
          have hcu := Rd.cell (Own.rd hO) huj
          have hfu := Ownv.frozen hO (by have := (Own.rd hO).le; omega) u
          have hiu := fun W => Rdv.ix (Own.rd hO) el34 huj .i64 W
          have HS := Lib.hid (Own.set_ hO huj x)
          have hbA := (Ownv.blk_ge hO (by have := (Own.rd hO).le; omega)).1
          have HB2 := Lib.hid (hB.grown (Own.set_ hO huj x).2 (Nat.le_trans hb hB.size) (fun k e => by cases e; exact hbA))
          have hcl := (Own.rd hO).len
          clear hO hO' hB
          go_wp2_with (go_at_call 108; refine HC.out.mono ?_; rintro e w' ⟨rfl, rfl⟩)
          go_roundw
          case rel => exact ⟨j + 1, cur.set u x, by omega, by go_num, by rw [HST.out, if_pos (by omega)]; go_num, HS.out.1, fun q h1 h2 => by rw [gi_set _ _ _ _ (by omega), if_neg (by omega)]; exact HSM.out q (by omega) h2, HB2.out⟩
          case measure => simp [intOf]; omega
      · obtain rfl : j = n := by omega
        rw [List.take_of_length_le (by omega)]
        have hlt' := HLT.out
        rw [hl, ← HUU.out] at hlt'
        rw [← HUU.out]
        have hcap := (Own.rd hO).le
        obtain ⟨b, o, rfl, -⟩ := Rdv.ptr (Own.rd hO) (by omega)
        have hsl0 := fun W => Rdv.sll (Own.rd hO) el34 .i64 (l := uu) (by omega) W
        rw [show cut (some ⟨b, o, none⟩) c uu = some ⟨b, o + uu, none⟩ from by unfold cut; rw [if_neg (by omega)]; exact congrArg some (add_lit b o uu)] at hsl0
        have hcl : ∀ ty, (Builtin.clear_ #[60] ty #[.slice (some ⟨b, o + uu, none⟩) (j - uu) (c - uu)]).run Tryz.prog wr = .ok (.tuple #[]) (wr.setCells b (o + uu) (List.replicate (j - uu) (.int .i64 0))) := fun ty =>
          Lib.run_clear_slice wr 60 3 ty (.int .i64 0) el34.u (fun W => by kernel_rfl) rfl rfl b (o + uu) (j - uu) (c - uu) (by omega)
            (fun q hq => by have := Rd.cell (Own.rd hO) (j := uu + q) (by omega); rw [adr_some] at this; rw [Nat.add_assoc, this]; rfl)
            (fun q hq => by have := Ownv.frozen hO (by omega) (uu + q); rw [adr_some] at this; rw [Nat.add_assoc]; exact this)
        have hsl1 := fun W => Rdv.slh (Own.rd hO) el34 .i64 (m := uu) (by omega) W
        have hbA := (Ownv.blk_ge hO (by omega)).1
        have HB9 := Lib.hid (hB.grown (grownBy_setCells b (List.replicate (j - uu) (.int .i64 0)) (o + uu) wr) (Nat.le_trans hb hB.size) (fun k e => by cases e; exact hbA))
        clear hO hO' hB hsame
        go_wp2
        go_ret
        exact ⟨_, _, rfl, HB9.out⟩
set_option maxRecDepth 100000 in
theorem usable_ok (k f : Nat) (lim : Int) (w : World) (h1 : 40 ≤ k) (h2 : k ≤ 6144) (hf : f < k) (hl : 1 ≤ lim) : Calls Tryz.prog 66 #[.int .i64 k, .int .i64 f, .int .i64 lim] w fun e w' => e = .returned (.tuple #[.int .i64 (usC ((bufL k f).take (szB k lim))), .int .i64 0]) ∧ Below w.heap.size w w' := by
  have HBU := Lib.hid (fun W => buffer_ok k f lim W h1 h2 hf hl)
  have hzb := szB_bd k hl
  have hN := nB_le h2
  generalize szB k lim = Z at *
  generalize nB k = N at *
  obtain ⟨u, hu⟩ : ∃ u, u = usC (List.take Z (bufL k f)) := ⟨_, rfl⟩
  rw [← hu]
  go_enter Tryz.func66, Tryz.ntmps66
  go_wp2_with fail
  refine (HBU.out _).mono ?_
  rintro e w1 ⟨A, c, rfl, hO, hB1⟩
  have HO := Lib.hid hO
  have HB1 := Lib.hid hB1
  clear hO hB1
  go_wp2_with fail
  refine (delf_any A Z c w.heap.size _ w1 HO.out (by omega) HB1.out.size).mono ?_
  rintro e w2 ⟨A', c', rfl, hB2⟩
  have HB2 := Lib.hid (HB1.out.trans hB2)
  clear hB2
  rw [← hu]
  clear hu
  go_wp2
  go_ret2
  exact ⟨rfl, HB2.out⟩
end Go.Proofs.YtcbbkflnenkpgaaGreat

namespace Go.Proofs.YtcbbkflnenkpgaaGreat
open Go.RowKit Go.Shelf
set_option linter.unusedVariables false
theorem SZ_40 (j : Nat) : 40 ≤ SZ j := SZ_lo j
theorem sz_40 (b i : Nat) : 40 ≤ sz b i := by
  unfold sz
  split
  · rename_i h
    by_cases hb : b ≤ 6144
    · have : shs b = 0 := by unfold shs; rw [if_pos hb]
      omega
    · have := sh_lt hb; omega
  · exact SZ_lo _
/-- filler bits of block i -/
def fl (b i : Nat) : Nat := if i = 0 then fi b else 0
theorem fl_lt {b i : Nat} (h1 : 1 ≤ b) : fl b i < sz b i := by
  have := (sz_ge (i := i) h1).1
  unfold fl
  omega
/-- usable elements of block i -/
def uS (b : Nat) (lim : Int) (i : Nat) : Nat := usC ((bufL (sz b i) (fl b i)).take (szB (sz b i) lim))
set_option maxRecDepth 100000 in
theorem tsize_any (b i : Nat) (w : World) : Calls Tryz.prog 67 #[.agg (ints8 (LY b)).toArray, .int .i64 i] w fun e w' => e = .returned (.int .i64 (sz b i : Int)) ∧ Below w.heap.size w w' := by
  rw [sz_if]
  simp only [LY, ints8, List.map_cons, List.map_nil]
  by_cases h : (i : Int) < (shs b : Int)
  · rw [if_pos h]
    go_enter Tryz.func67, Tryz.ntmps67
    go_wp2
    go_ret
    exact ⟨rfl, (Below.refl _ _).alloc (Nat.le_refl _) _⟩
  · rw [if_neg h]
    go_enter Tryz.func67, Tryz.ntmps67
    go_wp2
    go_ret
    exact ⟨rfl, (Below.refl _ _).alloc (Nat.le_refl _) _⟩
set_option maxRecDepth 100000 in
theorem tfil_any (b i : Nat) (w : World) : Calls Tryz.prog 30 #[.agg (ints8 (LY b)).toArray, .int .i64 i] w fun e w' => e = .returned (.int .i64 (fl b i : Int)) ∧ Below w.heap.size w w' := by
  unfold fl
  simp only [LY, ints8, List.map_cons, List.map_nil]
  by_cases h : i = 0
  · rw [if_pos h]
    have q : decide ((i : Int) > 0) = false := by simp; omega
    subst h
    go_enter Tryz.func30, Tryz.ntmps30
    go_wp2
    go_ret
    exact ⟨rfl, (Below.refl _ _).alloc (Nat.le_refl _) _⟩
  · rw [if_neg h]
    have q : 0 < i := by omega
    clear h
    go_enter Tryz.func30, Tryz.ntmps30
    go_wp2
    go_ret
    exact ⟨rfl, (Below.refl _ _).alloc (Nat.le_refl _) _⟩
set_option maxRecDepth 100000 in
theorem rfil_any (b i : Nat) (w : World) : Calls Tryz.prog 36 #[.agg (ints8 (LY b)).toArray, .int .i64 i] w fun e w' => e = .returned (.int .i64 (fl b i : Int)) ∧ Below w.heap.size w w' := by
  unfold fl
  simp only [LY, ints8, List.map_cons, List.map_nil]
  by_cases h : i = 0
  · rw [if_pos h]
    subst h
    go_enter Tryz.func36, Tryz.ntmps36
    go_wp2
    go_ret
    exact ⟨rfl, (Below.refl _ _).alloc (Nat.le_refl _) _⟩
  · rw [if_neg h]
    have q : ((i : Int) == 0) = false := beq_f (by omega)
    go_enter Tryz.func36, Tryz.ntmps36
    go_wp2
    go_ret
    exact ⟨rfl, (Below.refl _ _).alloc (Nat.le_refl _) _⟩
-- MORE
def SqPost (bad : Prop) (m VB : Nat) (A : Option Addr) (n c : Nat) (ys : List Int) (W : World) (e : Ending) (w' : World) : Prop :=
  ((bad ∧ e = .returned (.tuple #[.slice none 0 0, .int .i64 10])) ∨ (¬ bad ∧ ∃ A' c', e = .returned (.tuple #[.slice A' m c', .int .i64 0]) ∧ Own .i64 3 w' W.heap.size A' m c' (ys.take m))) ∧
  Blk w' VB 60 [.slice (cut A c m) (n - m) (c - m)] ∧ W.grownBy w' (some VB)
set_option maxRecDepth 100000 in
set_option maxHeartbeats 2000000 in
theorem cl50_any (b i LB VB CB m : Nat) (A : Option Addr) (n c : Nat) (ys : List Int) (lim : Int) (W : World) (h1 : 1 ≤ b) (h2 : b ≤ 79560) (hlim : 1 ≤ lim)
    (hL : Blk W LB 51 (ints8 (LY b))) (hV : Blk W VB 60 [.slice A n c]) (hC : W.cell? ⟨CB, 3, none⟩ = some (.int .i64 lim)) (hCV : CB ≠ VB) (hy : Rd .i64 W A n c ys) (hm : m ≤ n) (hn : n ≤ 200000) :
    Calls Tryz.prog 64 #[.int .i64 i, .int .i64 m, .pointer (some ⟨VB, 0, none⟩), .pointer (some ⟨LB, 0, none⟩), .pointer (some ⟨CB, 0, none⟩)] W (SqPost (uS b lim i = 0 ∧ 0 < m) m VB A n c ys W) := by
  have HU := Lib.hid (fun W => usable_ok (sz b i) (fl b i) lim W (sz_40 b i) (sz_ge (i := i) h1).2 (fl_lt h1) hlim)
  have hle := Rdv.le hy
  obtain ⟨U, hU⟩ : ∃ U, U = uS b lim i := ⟨_, rfl⟩
  rw [show usC ((bufL (sz b i) (fl b i)).take (szB (sz b i) lim)) = U from hU.symm] at HU
  rw [← hU]
  clear hU h1 h2 hlim
  have hLV : LB ≠ VB := by
    intro e
    have h3 : W.heap[LB]? = _ := hL
    have h4 : W.heap[VB]? = _ := hV
    rw [e, h4] at h3
    injection h3 with h3
    injection h3 with _ h9
    exact absurd h9 (by decide)
  have hclt : CB < W.heap.size := World.block_lt_of_cell? W _ hC
  have hvl := hV.lt
  have r0 := hV.cell (j := 0) rfl
  have s1 := fun W => Rdv.slh hy el34 .i64 (m := m) (by omega) W
  have s2 := fun W => Rdv.sll hy el34 .i64 hm W
  have hcl := Lib.hid (cloneI_any A m c (ys.take m) W (Rd.upto hy hm) (by omega))
  go_enter Tryz.func64, Tryz.ntmps64
  go_wp2_with (go_at_call 65; refine hcl.out.mono ?_; rintro e w3 ⟨A3, c3', rfl, hO3, hB3⟩; have hR3 := hV.below hB3; have r3 := hR3.cell (j := 0) rfl; have rf3 := hR3.frozen 0; have HL3 := Lib.hid ((hL.below hB3).other (fun e => hLV e.symm) 0 (.slice (cut A c m) (n - m) (c - m))); have HC3 := Lib.hid (cell_below hC hB3); have HB3 := Lib.hid hB3; have HR3 := Lib.hid (hR3.set 0 (.slice (cut A c m) (n - m) (c - m))); have HO3 := Lib.hid hO3; clear hO3 hB3 hcl)
  have HO4 := Lib.hid (Ownv.grown HO3.out (grownBy_set w3 VB 0 (.slice (cut A c m) (n - m) (c - m))) (fun hA he => by have h8 := (Ownv.blk_of HO3.out hA).1; have h9 := Option.some.inj he; omega))
  have HG4 := Lib.hid (grownBy_below HB3.out (grownBy_set w3 VB 0 (.slice (cut A c m) (n - m) (c - m))))
  have HC4 : Hid ((w3.setCell ⟨VB, 0, none⟩ (.slice (cut A c m) (n - m) (c - m))).cell? ⟨CB, 3, none⟩ = some (.int .i64 lim)) := Lib.hid (by rw [cell_set_ne _ hCV]; exact HC3.out)
  clear r0 s1 s2 hL hV hR3 r3 rf3 HB3 HO3 hC HC3 hy
  generalize w3.setCell ⟨VB, 0, none⟩ (.slice (cut A c m) (n - m) (c - m)) = W4 at *
  have HS4 : Hid (Blk W4 LB 51 (ints8 (LY b)) ∧ W4.cell? ⟨CB, 3, none⟩ = some (.int .i64 lim)) := Lib.hid ⟨HL3.out, HC4.out⟩
  clear HL3 HC4
  refine P_start (fun W => Blk W LB 51 (ints8 (LY b)) ∧ W.cell? ⟨CB, 3, none⟩ = some (.int .i64 lim)) 8 14 #[false, false, false, false, false, false, false, false, false, false, false, false, false, false] (by kernel_rfl) (by kernel_rfl) (by kernel_rfl) ?_
  refine P_takeT 0 20 (.agg (ints8 (LY b)).toArray) #[true, false, false, false, false, false, false, false, false, false, false, false, false, false] [2] rfl rfl (by kernel_rfl) (by kernel_rfl) (by kernel_rfl) (by kernel_rfl) (by kernel_rfl) (by kernel_rfl) (by kernel_rfl) (by decide) (fun _ _ _ h => h) (yieldsIf_load_mid rfl 51 (.tmp 3) rfl LB (0) rfl (ints8 (LY b)) _ (fun W hS => fun q v hv => hS.1.cell (by rw [Nat.zero_add]; exact hv)) Tryz.underlying51 rfl (by rw [info23]; rfl)) HS4.out ?_
  simp only [List.setIfInBounds_toArray, List.set_cons_zero, List.set_cons_succ]
  refine P_takeW 1 21 (.int .i64 (i : Int)) #[true, true, false, false, false, false, false, false, false, false, false, false, false, false] rfl rfl (by kernel_rfl) (by kernel_rfl) (by kernel_rfl) (by kernel_rfl) (by decide) (fun _ _ _ h => h) (Or.inl ⟨by rfl, fun W hS => by go_simp⟩) HS4.out ?_
  simp only [List.setIfInBounds_toArray, List.set_cons_zero, List.set_cons_succ]
  refine P_takeT 3 23 (.agg (ints8 (LY b)).toArray) #[true, true, false, true, false, false, false, false, false, false, false, false, false, false] [5] rfl rfl (by kernel_rfl) (by kernel_rfl) (by kernel_rfl) (by kernel_rfl) (by kernel_rfl) (by kernel_rfl) (by kernel_rfl) (by decide) (fun _ _ _ h => h) (yieldsIf_load_mid rfl 51 (.tmp 3) rfl LB (0) rfl (ints8 (LY b)) _ (fun W hS => fun q v hv => hS.1.cell (by rw [Nat.zero_add]; exact hv)) Tryz.underlying51 rfl (by rw [info23]; rfl)) HS4.out ?_
  simp only [List.setIfInBounds_toArray, List.set_cons_zero, List.set_cons_succ]
  refine P_takeW 4 24 (.int .i64 (i : Int)) #[true, true, false, true, true, false, false, false, false, false, false, false, false, false] rfl rfl (by kernel_rfl) (by kernel_rfl) (by kernel_rfl) (by kernel_rfl) (by decide) (fun _ _ _ h => h) (Or.inl ⟨by rfl, fun W hS => by go_simp⟩) HS4.out ?_
  simp only [List.setIfInBounds_toArray, List.set_cons_zero, List.set_cons_succ]
  refine P_takeW 6 26 (.pointer (some ⟨CB, 3, none⟩)) #[true, true, false, true, true, false, true, false, false, false, false, false, false, false] rfl rfl (by kernel_rfl) (by kernel_rfl) (by kernel_rfl) (by kernel_rfl) (by decide) (fun _ _ _ h => h) (Or.inl ⟨by rfl, fun W hS => by go_simp⟩) HS4.out ?_
  simp only [List.setIfInBounds_toArray, List.set_cons_zero, List.set_cons_succ]
  refine P_take 7 27 (.int .i64 lim) #[true, true, false, true, true, false, true, true, false, false, false, false, false, false] rfl rfl (by kernel_rfl) (by kernel_rfl) (by kernel_rfl) (by kernel_rfl) (by kernel_rfl) (by kernel_rfl) (by decide) (fun _ _ _ h => h) (Or.inl ⟨by rfl, fun W hS => by obtain ⟨hS1, hS2⟩ := hS; go_simp⟩) HS4.out ?_
  simp only [List.setIfInBounds_toArray, List.set_cons_zero, List.set_cons_succ]
  refine P_oneS 2 #[true, true, true, true, true, false, true, true, false, false, false, false, false, false] rfl (by kernel_rfl) (by kernel_rfl) rfl (fun K hK => ?_)
  go_simp
  refine (tsize_any b i _).mono ?_
  rintro e wa ⟨rfl, hBa⟩
  have HSa : Hid (Blk wa LB 51 (ints8 (LY b)) ∧ wa.cell? ⟨CB, 3, none⟩ = some (.int .i64 lim)) := Lib.hid ⟨HS4.out.1.drew.below hBa, cell_below (w := W4.drew) HS4.out.2 hBa⟩
  have HBa := Lib.hid (((Below.refl W4.heap.size W4).drew).trans hBa)
  clear hBa
  refine hK _ _ HSa.out ?_
  clear hK K
  refine P_oneS 5 #[true, true, true, true, true, true, true, true, false, false, false, false, false, false] rfl (by kernel_rfl) (by kernel_rfl) rfl (fun K hK => ?_)
  go_simp
  refine (tfil_any b i _).mono ?_
  rintro e wb ⟨rfl, hBb⟩
  have HSb : Hid (Blk wb LB 51 (ints8 (LY b)) ∧ wb.cell? ⟨CB, 3, none⟩ = some (.int .i64 lim)) := Lib.hid ⟨HSa.out.1.below hBb, cell_below HSa.out.2 hBb⟩
  have HBb := Lib.hid (HBa.out.trans (hBb.mono HBa.out.size))
  clear hBb
  refine hK _ _ HSb.out ?_
  clear hK K
  refine P_one 8 #[true, true, true, true, true, true, true, true, true, false, false, false, false, false] rfl (by kernel_rfl) (by kernel_rfl) rfl (by kernel_rfl) (fun K hK => ?_)
  go_simp
  refine (HU.out _).mono ?_
  rintro e wc ⟨rfl, hBc⟩
  have HBc := Lib.hid (HBb.out.trans (hBc.mono HBb.out.size))
  clear hBc
  refine hK _ _ ?_
  clear hK K
  refine P_one 9 #[true, true, true, true, true, true, true, true, true, true, false, false, false, false] rfl (by kernel_rfl) (by kernel_rfl) rfl (by kernel_rfl) (fun K hK => ?_)
  go_simp
  refine hK _ _ ?_
  clear hK K
  refine P_takeX 10 29 (.int .i64 (U : Int)) #[true, true, true, true, true, true, true, true, true, true, true, false, false, false] rfl rfl (by kernel_rfl) (by kernel_rfl) (by kernel_rfl) (by kernel_rfl) (by decide) (fun _ _ _ h => h) (Or.inl ⟨by rfl, fun W hS => by go_simp⟩) rfl ?_
  simp only [List.setIfInBounds_toArray, List.set_cons_zero, List.set_cons_succ]
  refine P_takeX 11 30 (.int .i64 0) #[true, true, true, true, true, true, true, true, true, true, true, true, false, false] rfl rfl (by kernel_rfl) (by kernel_rfl) (by kernel_rfl) (by kernel_rfl) (by decide) (fun _ _ _ h => h) (Or.inl ⟨by rfl, fun W hS => by go_simp⟩) rfl ?_
  simp only [List.setIfInBounds_toArray, List.set_cons_zero, List.set_cons_succ]
  refine P_one 12 #[true, true, true, true, true, true, true, true, true, true, true, true, true, false] rfl (by kernel_rfl) (by kernel_rfl) rfl (by kernel_rfl) (fun K hK => ?_)
  go_simp
  refine hK _ _ ?_
  clear hK K
  refine P_one 13 #[true, true, true, true, true, true, true, true, true, true, true, true, true, true] rfl (by kernel_rfl) (by kernel_rfl) rfl (by kernel_rfl) (fun K hK => ?_)
  go_simp
  refine hK _ _ ?_
  clear hK K
  refine P_done (by kernel_rfl) ?_ _
  have HR5 : Hid (Blk wc VB 60 [.slice (cut A c m) (n - m) (c - m)]) := Lib.hid (HR3.out.below HBc.out)
  have HG5 := Lib.hid (grownBy_then HG4.out HBc.out)
  have HO5 := Lib.hid (Ownv.below HO4.out HBc.out)
  clear HR3 HG4 HO4 HBc HBb HBa HSa HSb HS4 HU
  unfold SqPost
  by_cases hu : U = 0
  · have q : ((U : Int) == 0) = true := beq_t (by omega)
    by_cases hm0 : 0 < m
    · have q2 : decide ((m : Int) > 0) = true := by simp; omega
      have HP : Hid (U = 0 ∧ 0 < m) := Lib.hid ⟨hu, hm0⟩
      clear hu
      go_wp2
      go_ret2
      exact ⟨.inl ⟨HP.out, rfl⟩, HR5.out, HG5.out⟩
    · have q2 : decide ((m : Int) > 0) = false := by simp; omega
      have HP : Hid (¬ (U = 0 ∧ 0 < m)) := Lib.hid (fun h => hm0 h.2)
      clear hu
      go_wp2
      go_ret2
      exact ⟨.inr ⟨HP.out, A3, c3', rfl, HO5.out⟩, HR5.out, HG5.out⟩
  · have q : ((U : Int) == 0) = false := beq_f (by omega)
    have HP : Hid (¬ (U = 0 ∧ 0 < m)) := Lib.hid (fun h => hu h.1)
    clear hu
    go_wp2
    go_ret2
    exact ⟨.inr ⟨HP.out, A3, c3', rfl, HO5.out⟩, HR5.out, HG5.out⟩
end Go.Proofs.YtcbbkflnenkpgaaGreat

namespace Go.Proofs.YtcbbkflnenkpgaaGreat
open Go.RowKit Go.Shelf
set_option linter.unusedVariables false
def shN (C g m i : Nat) : Nat := if i + g % C < C then g / C * m else (g / C + 1) * m
theorem shr_cast (C g m i : Nat) : shr C g m i = (shN C g m i : Int) := by unfold shr shN; split <;> rfl
/-- how many values stand ahead of part i -/
def offS (C g m : Nat) : Nat → Nat
  | 0 => 0
  | i + 1 => offS C g m i + shN C g m i
theorem offS_lo (C g m : Nat) : ∀ k, k + g % C ≤ C → offS C g m k = k * (g / C * m)
  | 0, _ => by simp [offS]
  | k + 1, h => by
    simp only [offS]
    rw [offS_lo C g m k (by omega), shN, if_pos (by omega), Nat.add_mul k 1, Nat.one_mul]
theorem offS_hi (C g m : Nat) (hC : 1 ≤ C) : ∀ k, offS C g m (C - g % C + k) = (C - g % C) * (g / C * m) + k * ((g / C + 1) * m)
  | 0 => by
    have := Nat.mod_lt g (show C > 0 by omega)
    rw [Nat.add_zero, offS_lo C g m _ (by omega)]; simp
  | k + 1 => by
    have := Nat.mod_lt g (show C > 0 by omega)
    rw [← Nat.add_assoc]
    simp only [offS]
    rw [offS_hi C g m hC k, shN, if_neg (by omega), Nat.add_mul k 1, Nat.one_mul]; omega
theorem offS_all (C g m : Nat) (hC : 1 ≤ C) : offS C g m C = m * g := by
  have h1 := Nat.mod_lt g (show C > 0 by omega)
  have h2 := Nat.div_add_mod g C
  have h3 := offS_hi C g m hC (g % C)
  rw [show C - g % C + g % C = C by omega] at h3
  rw [h3]
  generalize g / C = a at *
  generalize g % C = r at *
  have e1 : (C - r) * a + r * (a + 1) = g := by
    rw [Nat.mul_add, Nat.mul_one, ← Nat.add_assoc, ← Nat.add_mul, show C - r + r = C by omega]; exact h2
  rw [← Nat.mul_assoc, ← Nat.mul_assoc, ← Nat.add_mul, e1, Nat.mul_comm]
theorem offS_le {C g m i j : Nat} (h : i ≤ j) : offS C g m i ≤ offS C g m j := by
  induction j with
  | zero => obtain rfl : i = 0 := by omega
            exact Nat.le_refl _
  | succ j ih =>
    by_cases hj : i = j + 1
    · subst hj; exact Nat.le_refl _
    · have := ih (by omega); simp only [offS]; omega
/-- the parts of values -/
def prtS (ys : List Int) (C g m k : Nat) : List (List Int) := (List.range k).map fun i => (ys.drop (offS C g m i)).take (shN C g m i)
theorem prtS_succ (ys : List Int) (C g m k : Nat) : prtS ys C g m (k + 1) = prtS ys C g m k ++ [(ys.drop (offS C g m k)).take (shN C g m k)] := by simp [prtS, List.range_succ]
theorem Rdv.grown0 {w w' : World} {A : Option Addr} {n c : Nat} {vs : List Value} (h : Rdv w A n c vs) {row : Option Nat} (hg : w.grownBy w' row) (hne : 0 < c → some (blk A) ≠ row) : Rdv w' A n c vs := by
  by_cases hc : 0 < c
  · exact h.grown hg (fun _ => hne hc)
  · have h1 := h.le
    have h2 := h.len
    obtain rfl : vs = [] := List.eq_nil_of_length_eq_zero (by omega)
    exact ⟨h.len, h.le, h.cm, h.nil, fun h9 => absurd h9 hc, fun h9 => absurd h9 hc, by simp⟩
theorem el41 : El Tryz.prog 63 60 (.slice none 0 0) 24 := ⟨by kernel_rfl, by kernel_rfl, fun _ => by kernel_rfl, rfl⟩
/-- a list of rows of numbers, all of the call's own, no two in one block -/
structure BI (w : World) (base : Nat) (A : Option Addr) (c : Nat) (L : List Sv) : Prop where
  o : Ownv 60 w base A L.length c (L.map Sv.v)
  r : ∀ s ∈ L, Own .i64 3 w base s.A s.n s.c s.xs
  p : L.Pairwise (fun s t => s.A ≠ none → t.A ≠ none → blk s.A ≠ blk t.A)
section
variable {w w' : World} {base base' c : Nat} {A : Option Addr} {L : List Sv}
theorem BI.nil (w : World) (base : Nat) : BI w base none 0 [] := ⟨Ownv.nilv 60 w base, by simp, List.Pairwise.nil⟩
theorem BI.below (h : BI w base A c L) (hB : Below w.heap.size w w') : BI w' base A c L := ⟨h.o.below hB, fun s hs => Ownv.below (h.r s hs) hB, h.p⟩
theorem BI.mono (h : BI w base A c L) (hb : base' ≤ base) : BI w base' A c L := ⟨h.o.mono hb, fun s hs => Ownv.mono (h.r s hs) hb, h.p⟩
/-- a block below the base has turned -/
theorem BI.grownL (h : BI w base A c L) {B : Nat} (hb : B < base) (hg : w.grownBy w' (some B)) : BI w' base A c L :=
  ⟨h.o.grown hg (fun hA he => by have h1 := (Ownv.blk_of h.o hA).1; have := Option.some.inj he; omega), fun s hs => Ownv.grown (h.r s hs) hg (fun hA he => by have h1 := (Ownv.blk_of (h.r s hs) hA).1; have := Option.some.inj he; omega), h.p⟩
/-- one more row -/
theorem BI.push (h : BI w base A c L) {s : Sv} (hs : Own .i64 3 w base s.A s.n s.c s.xs) (hp : ∀ t ∈ L, t.A ≠ none → s.A ≠ none → blk t.A ≠ blk s.A) {A' : Option Addr} {c' : Nat}
    (hO : Ownv 60 w' base A' (L.length + 1) c' (L.map Sv.v ++ [s.v])) (hg : w.grownBy w' ((Value.slice A L.length c).ownBlock)) : BI w' base A' c' (L ++ [s]) := by
  refine ⟨by simpa using hO, fun t ht => ?_, ?_⟩
  · rcases List.mem_append.1 ht with ht | ht
    · exact Ownv.grown (h.r t ht) hg (fun hA => rows_ne (h.r t ht) h.o (by decide) hA)
    · simp at ht; subst ht
      exact Ownv.grown hs hg (fun hA => rows_ne hs h.o (by decide) hA)
  · rw [List.pairwise_append]
    exact ⟨h.p, List.pairwise_singleton _ _, fun t ht u hu => by simp at hu; subst hu; exact hp t ht⟩
theorem BI.rd (h : BI w base A c L) : Rdv w A L.length c (L.map Sv.v) := h.o.rd
end
/-- block q has values but no place for them -/
def bad49 (b : Nat) (lim : Int) (C g m q : Nat) : Prop := uS b lim q = 0 ∧ 0 < shN C g m q
instance (b : Nat) (lim : Int) (C g m q : Nat) : Decidable (bad49 b lim C g m q) := by unfold bad49; exact inferInstance
structure EzS (W : World) (b : Nat) (lim : Int) (C g m VB LB CB : Nat) (An : Option Addr) (cn : Nat) (ys : List Int) (j : Nat) (A : Option Addr) (c : Nat) (L : List Sv) (wr : World) : Prop where
  bi : BI wr W.heap.size A c L
  xs : L.map (·.xs) = prtS ys C g m j
  lb : Blk wr LB 51 (ints8 (LY b))
  cb : wr.cell? ⟨CB, 3, none⟩ = some (.int .i64 lim)
  vb : ∃ Ar cr, Blk wr VB 60 [.slice Ar (ys.length - offS C g m j) cr] ∧ Rd .i64 wr Ar (ys.length - offS C g m j) cr (ys.drop (offS C g m j)) ∧ (0 < cr → blk Ar ≠ VB ∧ blk Ar < W.heap.size)
  ns : Rd .i64 wr An C cn (shT C g m C)
  gr : W.grownBy wr (some VB)
  ok : ∀ q, q < j → ¬ bad49 b lim C g m q
def EzInv (W : World) (b : Nat) (lim : Int) (C g m VB LB CB : Nat) (An : Option Addr) (cn : Nat) (ys : List Int) (out i : Value) (wr : World) : Prop :=
  ∃ (j : Nat) (A : Option Addr) (c : Nat) (L : List Sv), j ≤ C ∧ i = .int .i64 j ∧ out = .slice A L.length c ∧ L.length = j ∧ EzS W b lim C g m VB LB CB An cn ys j A c L wr
def EzPost (W : World) (b : Nat) (lim : Int) (C g m VB : Nat) (ys : List Int) (e : Ending) (w' : World) : Prop :=
  W.grownBy w' (some VB) ∧ (((∃ q, q < C ∧ bad49 b lim C g m q) ∧ e = .returned (.tuple #[.slice none 0 0, .int .i64 10])) ∨
    ((∀ q, q < C → ¬ bad49 b lim C g m q) ∧ ∃ A' c' L, e = .returned (.tuple #[.slice A' L.length c', .int .i64 0]) ∧ BI w' W.heap.size A' c' L ∧ L.map (·.xs) = prtS ys C g m C))
set_option maxRecDepth 100000 in
set_option maxHeartbeats 2000000 in
theorem each49_any (b : Nat) (lim : Int) (C g m VB LB CB : Nat) (An : Option Addr) (cn : Nat) (A0 : Option Addr) (n c0 : Nat) (ys : List Int) (W : World) (h1 : 1 ≤ b) (h2 : b ≤ 79560) (hlim : 1 ≤ lim) (hC : 1 ≤ C) (hC2 : C ≤ 13)
    (hn : n = m * g) (hn2 : n ≤ 200000) (hL : Blk W LB 51 (ints8 (LY b))) (hV : Blk W VB 60 [.slice A0 n c0]) (hK : W.cell? ⟨CB, 3, none⟩ = some (.int .i64 lim)) (hCV : CB ≠ VB) (hy : Rd .i64 W A0 n c0 ys) (hAV : 0 < c0 → blk A0 ≠ VB)
    (hns : Rd .i64 W An C cn (shT C g m C)) (hnV : An ≠ none → blk An ≠ VB) :
    Calls Tryz.prog 63 #[.slice An C cn, .func (.func 64) #[] #[.pointer (some ⟨VB, 0, none⟩), .pointer (some ⟨LB, 0, none⟩), .pointer (some ⟨CB, 0, none⟩)]] W (EzPost W b lim C g m VB ys) := by
  have hfl := hy.len
  have hoff := offS_all C g m hC
  subst hfl
  have hAR' : 0 < c0 → blk A0 ≠ VB ∧ blk A0 < W.heap.size := fun hA => ⟨hAV hA, by
    obtain ⟨bb, oo, rfl, h9⟩ := Rdv.ptr hy hA
    exact h9⟩
  have hvb := hV.lt
  have hlb := hL.lt
  have hcb := World.block_lt_of_cell? W _ hK
  have hLR : some LB ≠ some VB := by
    intro e
    have e := Option.some.inj e
    subst e
    have h3 : W.heap[LB]? = _ := hL
    have h4 : W.heap[LB]? = _ := hV
    rw [h4] at h3
    injection h3 with h3
    injection h3 with _ h9
    exact absurd h9 (by decide)
  have HNV := Lib.hid (fun hA => (⟨hnV hA, by have h8 := Rdv.le hns; obtain ⟨bb, oo, rfl, h9⟩ := Rdv.ptr hns (by omega); exact h9⟩ : blk An ≠ VB ∧ blk An < W.heap.size))
  have HS0 : Hid (EzS W b lim C g m VB LB CB An cn ys 0 none 0 [] W) := Lib.hid ⟨BI.nil W _, rfl, hL, hK, ⟨A0, c0, hV, hy, hAR'⟩, hns, World.grownBy.refl _ _, by omega⟩
  clear hnV hAR' hy hAV hL hV hK
  go_enter Tryz.func63, Tryz.ntmps63
  go_wp2
  go_loopw [6, 13] (fun out i wr => EzInv W b lim C g m VB LB CB An cn ys out i wr) (fun _ i _ => C - (intOf i).toNat)
  case atStart => exact ⟨0, none, 0, [], by omega, rfl, rfl, rfl, HS0.out⟩
  case round =>
    obtain ⟨j, A, c, L, hj, rfl, rfl, hlen, hS⟩ := hrel
    have HS := Lib.hid hS
    clear hS HS0 hns
    subst hlen
    by_cases hlt : L.length < C
    · have hmono := offS_le (C := C) (g := g) (m := m) (show L.length + 1 ≤ C by omega)
      have hstep : offS C g m (L.length + 1) = offS C g m L.length + shN C g m L.length := rfl
      obtain ⟨Ar, cr, hR1, hy1, hA1⟩ := HS.out.vb
      have hM : shN C g m L.length ≤ ys.length - offS C g m L.length := by omega
      have hc := Lib.hid (cl50_any b L.length LB VB CB (shN C g m L.length) Ar (ys.length - offS C g m L.length) cr (ys.drop (offS C g m L.length)) lim wr h1 h2 hlim HS.out.lb hR1 HS.out.cb hCV hy1 hM (by omega))
      have HR1 := Lib.hid hR1
      have HY1 := Lib.hid hy1
      have HA1 := Lib.hid hA1
      have cn1 := Rd.cell HS.out.ns (j := L.length) hlt
      rw [shT_gi _ _ _ _ _ hlt, shr_cast] at cn1
      have ix1 := fun W => Rdv.ix HS.out.ns el34 (j := L.length) hlt .i64 W
      clear hR1 hy1 hA1
      unfold SqPost at hc
      obtain ⟨M, hMe⟩ : ∃ M, M = shN C g m L.length := ⟨_, rfl⟩
      rw [← hMe] at hc cn1 hstep hM
      by_cases hbad : uS b lim L.length = 0 ∧ 0 < M
      · have HBD : Hid (∃ q, q < C ∧ bad49 b lim C g m q) := Lib.hid ⟨L.length, hlt, by unfold bad49; rw [← hMe]; exact hbad⟩
        have hc' : Hid (Calls Tryz.prog 64 #[.int .i64 L.length, .int .i64 M, .pointer (some ⟨VB, 0, none⟩), .pointer (some ⟨LB, 0, none⟩), .pointer (some ⟨CB, 0, none⟩)] wr fun e w' => e = .returned (.tuple #[.slice none 0 0, .int .i64 10]) ∧ wr.grownBy w' (some VB)) :=
          Lib.hid (hc.out.mono (fun e w' h => ⟨by rcases h.1 with h | h; exact h.2; exact absurd hbad h.1, h.2.2⟩))
        clear hc hbad hMe
        go_wp2_with (go_at_call 64; refine hc'.out.mono ?_; rintro e w1 ⟨rfl, hG'⟩; have HG' := Lib.hid (grown_trans HS.out.gr hG'); clear hG')
        go_ret2
        exact ⟨HG'.out, .inl ⟨HBD.out, rfl⟩⟩
      · have HBD : Hid (¬ bad49 b lim C g m L.length) := Lib.hid (by unfold bad49; rw [← hMe]; exact hbad)
        have hc' : Hid (Calls Tryz.prog 64 #[.int .i64 L.length, .int .i64 M, .pointer (some ⟨VB, 0, none⟩), .pointer (some ⟨LB, 0, none⟩), .pointer (some ⟨CB, 0, none⟩)] wr fun e w' => (∃ A' c', e = .returned (.tuple #[.slice A' M c', .int .i64 0]) ∧ Own .i64 3 w' wr.heap.size A' M c' ((ys.drop (offS C g m L.length)).take M)) ∧ Blk w' VB 60 [.slice (cut Ar cr M) (ys.length - offS C g m L.length - M) (cr - M)] ∧ wr.grownBy w' (some VB)) :=
          Lib.hid (hc.out.mono (fun e w' h => ⟨by rcases h.1 with h | h; exact absurd h.1 hbad; exact h.2, h.2⟩))
        have HME := Lib.hid hMe
        clear hc hbad hMe
        go_wp2_with (first
          | (go_at_call 64; refine hc'.out.mono ?_; rintro e w1 ⟨⟨A', c', rfl, hO'⟩, hR', hG'⟩; have HO' := Lib.hid hO'; have HR' := Lib.hid hR'; have HG' := Lib.hid hG'; have HBI1 := Lib.hid (BI.grownL HS.out.bi hvb hG'); have HZ1 := Lib.hid (Nat.le_trans HS.out.gr.size hG'.size); clear hO' hR' hG' hc')
          | (at_builtin; refine list_of rfl fun K hK => wp_app1 (w := w1) (base := W.heap.size) _ _ 63 rfl el41 rfl (.slice A' M c') rfl rfl HBI1.out.o (by omega) (by omega) HZ1.out ?_; intro A2 c2 w2 hO2 hg2; have HO2 := Lib.hid hO2; have HG2 := Lib.hid hg2; clear hO2 hg2; refine hK _ _ ?_; clear hK K))
        have hge : A' ≠ none → wr.heap.size ≤ blk A' := fun hA => (Ownv.blk_of HO'.out hA).1
        have hBL2 : BI w2 W.heap.size A2 c2 (L ++ [⟨A', M, c', (ys.drop (offS C g m L.length)).take M⟩]) :=
          BI.push HBI1.out (s := ⟨A', M, c', (ys.drop (offS C g m L.length)).take M⟩) (Ownv.mono HO'.out HS.out.gr.size)
            (fun t ht h8 h9 => by have h10 := (Ownv.blk_of (HS.out.bi.r t ht) h8).2; exact Nat.ne_of_lt (Nat.lt_of_lt_of_le h10 (hge h9))) HO2.out HG2.out
        have hob : ∀ k, (Value.slice A L.length c).ownBlock = some k → W.heap.size ≤ k := fun k hk => Ownv.ob' HBI1.out.o hk
        have hLn : some LB ≠ (Value.slice A L.length c).ownBlock := fun he => by have := hob _ he.symm; omega
        have hRn : some VB ≠ (Value.slice A L.length c).ownBlock := fun he => by have := hob _ he.symm; omega
        have hR2 := HR'.out.grown HG2.out hRn
        have e1 : ys.length - offS C g m L.length - M = ys.length - offS C g m (L.length + 1) := by omega
        rw [e1] at hR2
        have hcut := Rdv.le HY1.out
        have hbk := blk_cut HY1.out (l := M) (by omega)
        have hy0 := Rd.cut_ HY1.out (l := M) (m := ys.length - offS C g m L.length) (by omega) (Nat.le_refl _)
        rw [List.take_of_length_le (by rw [List.length_drop]; exact Nat.le_refl _), List.drop_drop, e1, ← hstep] at hy0
        have hr5 : ∀ h : 0 < cr - M, blk (cut Ar cr M) ≠ VB ∧ blk (cut Ar cr M) < W.heap.size := fun h => by rw [hbk]; exact HA1.out (by omega)
        have hy2 := Rdv.grown0 (Rdv.grown0 hy0 HG'.out (fun h9 h10 => (hr5 h9).1 (Option.some.inj h10))) HG2.out (fun h9 h10 => by have h11 := hob _ h10.symm; have h12 := (hr5 h9).2; omega)
        have hG3 := grownBy_own (grown_trans HS.out.gr HG'.out) HG2.out hob
        have hlb2 := (HS.out.lb.grown HG'.out hLR).grown HG2.out hLn
        have hns2 : Rd .i64 w2 An C cn (shT C g m C) := Rdv.grown (Rdv.grown HS.out.ns HG'.out (fun h9 h10 => (HNV.out h9).1 (Option.some.inj h10))) HG2.out (fun h9 h10 => by have h11 := hob _ h10.symm; have h12 := (HNV.out h9).2; omega)
        have hcb2 : w2.cell? ⟨CB, 3, none⟩ = some (.int .i64 lim) := by
          have h7 := World.block_lt_of_cell? _ _ HS.out.cb
          have h8 : w1.cell? ⟨CB, 3, none⟩ = some (.int .i64 lim) := (World.cell?_of_block (HG'.out.block CB h7 (fun e => hCV (Option.some.inj e)))).trans HS.out.cb
          exact (World.cell?_of_block (HG2.out.block CB (World.block_lt_of_cell? _ _ h8) (fun he => by have := hob _ he.symm; omega))).trans h8
        go_roundw
        case rel => exact ⟨L.length + 1, A2, c2, L ++ [⟨A', M, c', (ys.drop (offS C g m L.length)).take M⟩], by omega, by go_num, by simp, by simp, ⟨hBL2, by rw [List.map_append, HS.out.xs, prtS_succ, ← HME.out]; rfl, hlb2, hcb2, ⟨_, _, hR2, hy2, hr5⟩, hns2, hG3, lt_succ_cases HS.out.ok HBD.out⟩⟩
        case measure => simp [intOf]; omega
    · have he : L.length = C := by omega
      subst he
      have HX := Lib.hid HS.out.xs
      go_wp2
      go_ret2
      exact ⟨HS.out.gr, .inr ⟨HS.out.ok, A, c, L, rfl, HS.out.bi, HX.out⟩⟩
end Go.Proofs.YtcbbkflnenkpgaaGreat

namespace Go.Proofs.YtcbbkflnenkpgaaGreat
open Go.RowKit Go.Shelf
set_option linter.unusedVariables false
theorem VC_true {sz bt md lm rv : Int} (h : VC sz bt md lm rv = true) : ∃ s g m : Nat, sz = s ∧ md = m ∧ bt = ((m * g : Nat) : Int) ∧ 1 ≤ s ∧ s ≤ 79536 ∧ (m = 2 ∨ m = 4 ∨ m = 6) ∧ m * g ≤ 131072 ∧ 1 ≤ lm ∧ 0 ≤ rv ∧ rv ≤ 3 := by
  unfold VC at h
  rw [decide_eq_true_iff] at h
  obtain ⟨h1, h2, h3, h4, h5, h6, h7, h8, h9⟩ := h
  have e : bt = md * (bt / md) := by have := Int.emod_add_mul_ediv bt md; omega
  have hq : 0 ≤ bt / md := Int.ediv_nonneg h4 (by omega)
  have e2 : bt = ((md.toNat * (bt / md).toNat : Nat) : Int) := by
    rw [Int.natCast_mul, show ((md.toNat : Nat) : Int) = md by omega, show (((bt / md).toNat : Nat) : Int) = bt / md by omega]; exact e
  refine ⟨sz.toNat, (bt / md).toNat, md.toNat, by omega, by omega, e2, by omega, by omega, by omega, ?_, h7, h8, h9⟩
  rw [e2] at h5; exact Int.ofNat_le.1 h5
def TsBad (w : World) (e : Ending) (w' : World) : Prop := e = .returned (.tuple #[.slice none 0 0, .int .i64 2]) ∧ Below w.heap.size w w'
set_option maxRecDepth 100000 in
set_option maxHeartbeats 2000000 in
theorem tsplit_bad (sz bt md lm rv : Int) (A : Option Addr) (n c : Nat) (w : World) (h : VC sz bt md lm rv = false ∨ (n : Int) ≠ bt) : Calls Tryz.prog 26 #[.agg #[.int .i64 sz, .int .i64 bt, .int .i64 md, .int .i64 lm, .int .i64 rv], .slice A n c] w (TsBad w) := by
  have HC0 := Lib.hid ((Blk.new w [.int .i64 sz, .int .i64 bt, .int .i64 md, .int .i64 lm, .int .i64 rv] 40 rfl).alloc (.cells #[.slice A n c] 60))
  have HV0 : Hid (Blk ((w.alloc (.cells [Value.int .i64 sz, .int .i64 bt, .int .i64 md, .int .i64 lm, .int .i64 rv].toArray 40)).alloc (.cells #[.slice A n c] 60)) (w.heap.size + 1) 60 [.slice A n c]) := Lib.hid (Blk.new (w.alloc _) [.slice A n c] 60 (by simp))
  have HB0 := Lib.hid (((Below.refl _ w).alloc (Nat.le_refl _) (.cells [Value.int .i64 sz, .int .i64 bt, .int .i64 md, .int .i64 lm, .int .i64 rv].toArray 40)).alloc (by simp) (.cells #[.slice A n c] 60))
  have hc0 := HC0.out
  by_cases hV : VC sz bt md lm rv = true
  · have hne : (n : Int) ≠ bt := by rcases h with h | h; rw [hV] at h; cases h; exact h
    obtain ⟨s, g, m, rfl, rfl, rfl, hs1, hs2, hm, hgm, hlm, hrv1, hrv2⟩ := VC_true hV
    have HS := Lib.hid (fun W => shares_ok s (bC (s + 24)) g m lm rv W hs1 hs2 rfl hm hgm hlm ⟨hrv1, hrv2⟩)
    obtain ⟨bt, hbt⟩ : ∃ bt, bt = ((m * g : Nat) : Int) := ⟨_, rfl⟩
    rw [← hbt] at HS HC0 HV0 HB0 hne hc0 ⊢
    have q : ((n : Int) != bt) = true := bne_t hne
    clear h hV hbt hne
    go_enter Tryz.func26, Tryz.ntmps26
    go_wp2_with (first
      | (refine ldrow (cs := [.int .i64 s, .int .i64 bt, .int .i64 m, .int .i64 lm, .int .i64 rv]) rfl 40 (.tmp 2) rfl rfl hc0 _ Tryz.underlying40 rfl (by kernel_rfl) ?_)
      | (go_at_call 25; refine (HS.out _).mono ?_; rintro e w1 ⟨A1, c1, rfl, hO1, hB1⟩; have k0 := (HV0.out.below hB1).cell (j := 0) rfl; have k1 := (HC0.out.below hB1).cell (j := 1) (v := .int .i64 bt) rfl; have HB1 := Lib.hid (HB0.out.trans (hB1.mono HB0.out.size)); clear hO1 hB1))
    go_ret2
    exact ⟨rfl, HB1.out⟩
  · have HS := Lib.hid (fun W => shares_bad sz bt md lm rv W (by simpa using hV))
    clear h hV
    go_enter Tryz.func26, Tryz.ntmps26
    go_wp2_with (first
      | (refine ldrow (cs := [.int .i64 sz, .int .i64 bt, .int .i64 md, .int .i64 lm, .int .i64 rv]) rfl 40 (.tmp 2) rfl rfl hc0 _ Tryz.underlying40 rfl (by kernel_rfl) ?_)
      | (go_at_call 25; refine (HS.out _).mono ?_; rintro e w1 ⟨rfl, hB1⟩; have HB1 := Lib.hid (HB0.out.trans (hB1.mono HB0.out.size)); clear hB1))
    go_ret2
    exact ⟨rfl, HB1.out⟩
/-- what Split gives -/
def TsPost (b : Nat) (lim : Int) (C g m : Nat) (ys : List Int) (w : World) (e : Ending) (w' : World) : Prop :=
  Below w.heap.size w w' ∧ (((∃ q, q < C ∧ bad49 b lim C g m q) ∧ e = .returned (.tuple #[.slice none 0 0, .int .i64 10])) ∨
    ((∀ q, q < C → ¬ bad49 b lim C g m q) ∧ ∃ A' c' L, e = .returned (.tuple #[.slice A' L.length c', .int .i64 0]) ∧ BI w' w.heap.size A' c' L ∧ L.map (·.xs) = prtS ys C g m C))
set_option maxRecDepth 100000 in
set_option maxHeartbeats 2000000 in
theorem tsplit_ok (s C g m : Nat) (lm rv : Int) (A : Option Addr) (n c : Nat) (ys : List Int) (w : World) (hs1 : 1 ≤ s) (hs2 : s ≤ 79536) (hCe : C = bC (s + 24)) (hmm : m = 2 ∨ m = 4 ∨ m = 6) (hgm : m * g ≤ 131072) (hlm : 1 ≤ lm) (hrv : 0 ≤ rv ∧ rv ≤ 3)
    (hn : n = m * g) (hy : Rd .i64 w A n c ys) :
    Calls Tryz.prog 26 #[.agg #[.int .i64 s, .int .i64 ((m * g : Nat) : Int), .int .i64 m, .int .i64 lm, .int .i64 rv], .slice A n c] w (TsPost (s + 24) lm C g m ys w) := by
  have hmf : ∀ (fn : Fn) (first cap : Array Value) (w : World), (Instr.makeFunc fn first cap).run Tryz.prog w = .ok (.func fn first cap) w := fun _ _ _ _ => rfl
  have HS := Lib.hid (fun W => shares_ok s C g m lm rv W hs1 hs2 hCe hmm hgm hlm hrv)
  have HLY := Lib.hid (fun W => lay_any s W)
  have hly : ly15 s = (LY (s + 24), 0) := by unfold ly15; rw [if_neg (by omega)]; rfl
  rw [hly] at HLY
  have HEA := Lib.hid (fun VB LB CB An cn A0 n c0 W h1 h2 h3 h4 h5 h6 h7 h8 h9 h10 => each49_any (s + 24) lm C g m VB LB CB An cn A0 n c0 ys W (by omega) (by omega) hlm (by rw [hCe]; exact bC_pos) (by rw [hCe]; exact bC_le (by omega)) h1 h2 h3 h4 h5 h6 h7 h8 h9 h10)
  obtain ⟨bt, hbt⟩ : ∃ bt, bt = ((m * g : Nat) : Int) := ⟨_, rfl⟩
  have hnb : (n : Int) = bt := by rw [hn, hbt]
  have hn2 : n ≤ 200000 := by omega
  rw [← hbt] at HS ⊢
  have q : ((n : Int) != bt) = false := bne_f hnb
  have HNE := Lib.hid hn
  clear hbt hnb hly hCe hn
  have HC0 := Lib.hid ((Blk.new w [.int .i64 s, .int .i64 bt, .int .i64 m, .int .i64 lm, .int .i64 rv] 40 rfl).alloc (.cells #[.slice A n c] 60))
  have HV0 : Hid (Blk ((w.alloc (.cells [Value.int .i64 s, .int .i64 bt, .int .i64 m, .int .i64 lm, .int .i64 rv].toArray 40)).alloc (.cells #[.slice A n c] 60)) (w.heap.size + 1) 60 [.slice A n c]) := Lib.hid (Blk.new (w.alloc _) [.slice A n c] 60 (by simp))
  have HB0 := Lib.hid (((Below.refl _ w).alloc (Nat.le_refl _) (.cells [Value.int .i64 s, .int .i64 bt, .int .i64 m, .int .i64 lm, .int .i64 rv].toArray 40)).alloc (by simp) (.cells #[.slice A n c] 60))
  have HY0 := Lib.hid (Rdv.below hy (((Below.refl _ w).alloc (Nat.le_refl _) (.cells [Value.int .i64 s, .int .i64 bt, .int .i64 m, .int .i64 lm, .int .i64 rv].toArray 40)).alloc (by simp) (.cells #[.slice A n c] 60)))
  have HYB : Hid (0 < c → blk A < w.heap.size) := Lib.hid (fun hc => by obtain ⟨bb, oo, rfl, h9⟩ := Rdv.ptr hy hc; exact h9)
  clear hy
  have hc0 := HC0.out
  go_enter Tryz.func26, Tryz.ntmps26
  go_wp2_with (first
    | (refine ldrow (cs := [.int .i64 s, .int .i64 bt, .int .i64 m, .int .i64 lm, .int .i64 rv]) rfl 40 (.tmp 2) rfl rfl hc0 _ Tryz.underlying40 rfl (by kernel_rfl) ?_)
    | (go_at_call 25; refine (HS.out _).mono ?_; rintro e w1 ⟨A1, c1, rfl, hO1, hB1⟩; have k0 := (HV0.out.below hB1).cell (j := 0) rfl; have k1 := (HC0.out.below hB1).cell (j := 1) (v := .int .i64 bt) rfl; have k2 := (HC0.out.below hB1).cell (j := 0) (v := .int .i64 s) rfl; have HO1 := Lib.hid hO1; have HBw1 := Lib.hid hB1; clear hO1 hB1)
    | (go_at_call 17; refine (HLY.out _).mono ?_; rintro e w2 ⟨rfl, hB2⟩; have hL0 : Blk (w2.alloc (.cells (ints8 zero7).toArray 51)) w2.heap.size 51 (ints8 zero7) := Blk.new w2 _ 51 rfl; have HBw2 := Lib.hid hB2; clear hB2; simp only [ints8, zero7, List.map_cons, List.map_nil] at hL0)
    | (refine strow (cs := ints8 (LY (s + 24))) rfl 51 (.tmp 8) (.tmp 28) rfl rfl rfl hL0 (by simp [ints8, LY]) (by rw [info23]; simp [ints8, LY]) (ints8_one _) ?_
       intro W3 g1 g2
       have hq := (Below.refl w2.heap.size w2).alloc (Nat.le_refl _) (.cells #[.int .i64 0, .int .i64 0, .int .i64 0, .int .i64 0, .int .i64 0, .int .i64 0, .int .i64 0] 51)
       have HB3 := Lib.hid (hq.grown g2 hq.size (fun k hk => by cases hk; exact Nat.le_refl _))
       have HL3 := Lib.hid g1
       clear g1 g2 hq hL0))
  have d1 := HBw1.out.trans (HBw2.out.mono HBw1.out.size)
  have d := d1.trans (HB3.out.mono d1.size)
  have dw := HB0.out.trans (d.mono HB0.out.size)
  have hs0 : ((w.alloc (.cells [Value.int .i64 s, .int .i64 bt, .int .i64 m, .int .i64 lm, .int .i64 rv].toArray 40)).alloc (.cells #[.slice A n c] 60)).heap.size = w.heap.size + 2 := by simp
  have HO3 := Lib.hid (Ownv.below HO1.out ((HBw2.out.trans (HB3.out.mono HBw2.out.size))))
  have HCL := Lib.hid (HEA.out (w.heap.size + 1) w2.heap.size w.heap.size A1 c1 A n c W3 HNE.out hn2 HL3.out (HV0.out.below d) ((HC0.out.below d).cell (j := 3) rfl) (by omega) (Rdv.below HY0.out d) (fun hc => by have := HYB.out hc; omega) (Own.rd HO3.out) (fun hA => by have := (Ownv.blk_of HO3.out hA).1; rw [hs0] at this; omega))
  have HDW := Lib.hid dw
  clear hs0 d d1 dw HO3 HB3 HL3 HO1 HY0 HBw1 HBw2 HC0 HV0 HB0 HYB HNE HEA hn2 hc0 k0 k1 k2 q HLY HS
  have hz := HDW.out.size
  refine HCL.out.mono ?_
  rintro e w4 ⟨hG, ⟨hbad, rfl⟩ | ⟨hok, A', c', L, rfl, hBI, hxs⟩⟩
  · have HX := Lib.hid hbad
    have HB4 := Lib.hid (HDW.out.grown hG hz (fun k hk => by cases hk; omega))
    clear hbad hG
    go_wp2
    go_ret2
    exact ⟨HB4.out, .inl ⟨HX.out, rfl⟩⟩
  · have HX := Lib.hid hok
    have HBI := Lib.hid (BI.mono hBI hz)
    have HXS := Lib.hid hxs
    have HB4 := Lib.hid (HDW.out.grown hG hz (fun k hk => by cases hk; omega))
    clear hok hG hBI hxs
    go_wp2
    go_ret2
    exact ⟨HB4.out, .inr ⟨HX.out, A', c', L, rfl, HBI.out, HXS.out⟩⟩
end Go.Proofs.YtcbbkflnenkpgaaGreat

namespace Go.Proofs.YtcbbkflnenkpgaaGreat
open Go.RowKit Go.Shelf
set_option linter.unusedVariables false
theorem rshares_bad (sz bt md lm rv : Int) (w : World) (hV : VC sz bt md lm rv = false) : Calls Tryz.prog 32 #[.agg #[.int .i64 sz, .int .i64 bt, .int .i64 md, .int .i64 lm, .int .i64 rv]] w fun e w' => e = .returned (.tuple #[.slice none 0 0, .int .i64 2]) ∧ Below w.heap.size w w' := by
  have HV := Lib.hid (fun W => rvalc_any sz bt md lm rv W)
  rw [hV] at HV
  clear hV
  have hc0 := Blk.new w [.int .i64 sz, .int .i64 bt, .int .i64 md, .int .i64 lm, .int .i64 rv] 40 rfl
  have HB0 := Lib.hid (bal (Below.refl _ w) (.cells [Value.int .i64 sz, .int .i64 bt, .int .i64 md, .int .i64 lm, .int .i64 rv].toArray 40))
  go_enter Tryz.func32, Tryz.ntmps32
  go_wp2_with (first
    | (refine ldrow (cs := [.int .i64 sz, .int .i64 bt, .int .i64 md, .int .i64 lm, .int .i64 rv]) rfl 40 (.tmp 1) rfl rfl hc0 _ Tryz.underlying40 rfl (by kernel_rfl) ?_)
    | (go_at_call 72; refine (HV.out _).mono ?_; rintro e w3 ⟨rfl, hB3⟩; have HB3 := Lib.hid (HB0.out.trans (hB3.mono HB0.out.size)); clear hB3))
  go_ret2
  exact ⟨rfl, HB3.out⟩
def RsI (w : World) (C g m CB LB : Nat) (cs ls : List Value) (o i : Value) (wr : World) : Prop := ∃ (j : Nat) (A : Option Addr) (c : Nat), j ≤ C ∧ i = .int .i64 j ∧ o = .slice A j c ∧ Own .i64 3 wr w.heap.size A j c (shT C g m j) ∧ Blk wr CB 40 cs ∧ Blk wr LB 51 ls ∧ Below w.heap.size w wr
set_option maxRecDepth 100000 in
set_option maxHeartbeats 2000000 in
theorem rshares_ok (s C g m : Nat) (lm rv : Int) (w : World) (hs1 : 1 ≤ s) (hs2 : s ≤ 79536) (hCe : C = bC (s + 24)) (hmm : m = 2 ∨ m = 4 ∨ m = 6) (hgm : m * g ≤ 131072) (hlm : 1 ≤ lm) (hrv : 0 ≤ rv ∧ rv ≤ 3) :
    Calls Tryz.prog 32 #[.agg #[.int .i64 s, .int .i64 ((m * g : Nat) : Int), .int .i64 m, .int .i64 lm, .int .i64 rv]] w fun e w' => ∃ A c, e = .returned (.tuple #[.slice A C c, .int .i64 0]) ∧ Own .i64 3 w' w.heap.size A C c (shT C g m C) ∧ Below w.heap.size w w' := by
  have hg : g ≤ 65536 := by rcases hmm with rfl | rfl | rfl <;> omega
  have hC1 : 1 ≤ C := by rw [hCe]; exact bC_pos
  have hC2 : C ≤ 13 := by rw [hCe]; exact bC_le (by omega)
  have hV : VC s ((m * g : Nat) : Int) m lm rv = true := by
    unfold VC
    rw [decide_eq_true_iff]
    refine ⟨by omega, by omega, by omega, by omega, by omega, ?_, hlm, hrv.1, hrv.2⟩
    rw [Int.natCast_mul]; exact Int.mul_emod_right _ _
  have HV := Lib.hid (fun W => rvalc_any s ((m * g : Nat) : Int) m lm rv W)
  rw [hV] at HV
  have HLY := Lib.hid (fun W => rlay_any s W)
  have hly : ly15 s = (LY (s + 24), 0) := by unfold ly15; rw [if_neg (by omega)]; rfl
  rw [hly] at HLY
  obtain ⟨ly, hly⟩ : ∃ ly, ly = LY (s + 24) := ⟨_, rfl⟩
  have hl7 : ly.length = 7 := by rw [hly]; rfl
  have hl1 : (ints8 ly)[1]? = some (.int .i64 C) := by rw [hly, hCe]; rfl
  rw [← hly] at HLY
  obtain ⟨bt, hbt⟩ : ∃ bt, bt = ((m * g : Nat) : Int) := ⟨_, rfl⟩
  have hm0 : 2 ≤ m ∧ m ≤ 6 := by omega
  have hgt : IntKind.i64.wrap (bt.tdiv (m : Int)) = (g : Int) := by
    rw [Int.tdiv_eq_ediv_of_nonneg (by rw [hbt]; omega), hbt, Int.natCast_mul, Int.mul_ediv_cancel_left _ (by omega), IntKind.wrap_i64]; omega
  rw [← hbt] at HV ⊢
  have HMM := Lib.hid hmm
  clear hly hbt hV hCe hmm hlm hrv hs1 hs2
  obtain ⟨a, ha⟩ : ∃ a, a = g / C := ⟨_, rfl⟩
  obtain ⟨r, hr⟩ : ∃ r, r = g % C := ⟨_, rfl⟩
  have hrC : r < C := by rw [hr]; exact Nat.mod_lt _ (by omega)
  have hdm : C * a + r = g := by rw [ha, hr]; exact Nat.div_add_mod g C
  have hag : a ≤ g := by rw [ha]; exact Nat.div_le_self _ _
  have hrt : IntKind.i64.wrap ((C : Int) - (g : Int).tmod (C : Int)) = (C : Int) - r := by
    rw [Int.tmod_eq_emod_of_nonneg (by omega), show (g : Int) % (C : Int) = (r : Int) by rw [hr]; rfl, IntKind.wrap_i64]; omega
  have hrt0 : (g : Int).tmod (C : Int) = (r : Int) := by rw [Int.tmod_eq_emod_of_nonneg (by omega), hr]; rfl
  have hq : IntKind.i64.wrap ((g : Int).tdiv (C : Int)) = (a : Int) := by
    rw [Int.tdiv_eq_ediv_of_nonneg (by omega), ← Int.natCast_ediv, ← ha, IntKind.wrap_i64]; omega
  have hcr : IntKind.i64.wrap ((C : Int) - (r : Int)) = (C : Int) - r := by rw [IntKind.wrap_i64]; omega
  have hmne : ¬ m = 0 := by omega
  have hCne : ¬ C = 0 := by omega
  have HC0 := Lib.hid (Blk.new w [.int .i64 s, .int .i64 bt, .int .i64 m, .int .i64 lm, .int .i64 rv] 40 rfl)
  have HB0 := Lib.hid (bal (Below.refl _ w) (.cells [Value.int .i64 s, .int .i64 bt, .int .i64 m, .int .i64 lm, .int .i64 rv].toArray 40))
  have hc0 := HC0.out
  have hcl0 := HC0.out.lt
  go_enter Tryz.func32, Tryz.ntmps32
  go_wp2_with (first
    | (refine ldrow (cs := [.int .i64 s, .int .i64 bt, .int .i64 m, .int .i64 lm, .int .i64 rv]) rfl 40 (.tmp 1) rfl rfl hc0 _ Tryz.underlying40 rfl (by kernel_rfl) ?_)
    | (go_at_call 72; refine (HV.out _).mono ?_; rintro e w1 ⟨rfl, hB1⟩; have HC1 := Lib.hid (HC0.out.below hB1); have HB1 := Lib.hid (HB0.out.trans (hB1.mono HB0.out.size)); have k0 := HC1.out.cell (j := 0) (v := .int .i64 s) rfl; clear hB1 hc0 HC0 HB0)
    | (go_at_call 34; refine (HLY.out _).mono ?_; rintro e w2 ⟨rfl, hB2⟩; have hL0 : Blk (w2.alloc (.cells (ints8 zero7).toArray 51)) w2.heap.size 51 (ints8 zero7) := Blk.new w2 _ 51 rfl; have HC2 := Lib.hid ((HC1.out.below hB2).alloc (.cells #[.int .i64 0, .int .i64 0, .int .i64 0, .int .i64 0, .int .i64 0, .int .i64 0, .int .i64 0] 51)); have HB2 := Lib.hid (bal (HB1.out.trans (hB2.mono HB1.out.size)) (.cells #[.int .i64 0, .int .i64 0, .int .i64 0, .int .i64 0, .int .i64 0, .int .i64 0, .int .i64 0] 51)); have HLC := Lib.hid (Nat.lt_of_lt_of_le HC1.out.lt hB2.size); have HWL := Lib.hid (Nat.le_trans HB1.out.size hB2.size); clear hB2 k0; simp only [ints8, zero7, List.map_cons, List.map_nil] at hL0)
    | (refine strow (cs := ints8 ly) rfl 51 (.tmp 4) (.tmp 17) rfl rfl rfl hL0 (by simp [ints8, hl7]) (by rw [info23]; simp [ints8, hl7]) (ints8_one _) ?_
       intro W3 g1 g2
       have HC3 := Lib.hid (HC2.out.grown g2 (fun e => by have h7 := HLC.out; have h8 := Option.some.inj e; omega))
       have HB3 := Lib.hid (HB2.out.grown g2 HB2.out.size (fun k hk => by cases hk; exact HWL.out))
       have HL3 := Lib.hid g1
       have k1 := HC3.out.cell (j := 1) (v := .int .i64 bt) rfl
       have k2 := HC3.out.cell (j := 2) (v := .int .i64 m) rfl
       have k3 := g1.cell (j := 1) hl1
       clear g1 g2 hL0)
    | go_quiet (fail))
  have hgm : (g : Int) % (C : Int) = (r : Int) := by rw [hr]; rfl
  simp only [hgm]
  have HC4 : Hid (Blk (W3.drewN nq) w.heap.size 40 [.int .i64 s, .int .i64 bt, .int .i64 m, .int .i64 lm, .int .i64 rv]) := Lib.hid (HC3.out.drewN nq)
  have HL4 : Hid (Blk (W3.drewN nq) w2.heap.size 51 (ints8 ly)) := Lib.hid (HL3.out.drewN nq)
  have HB4 : Hid (Below w.heap.size w (W3.drewN nq)) := Lib.hid (HB3.out.trans (Qt.below ⟨nq, rfl⟩ _))
  have haw0 : IntKind.i64.wrap (a : Int) = (a : Int) := by rw [IntKind.wrap_i64]; omega
  have hgq : (g : Int) / (C : Int) = (a : Int) := by rw [ha]; rfl
  have HA := Lib.hid ha
  have HR := Lib.hid hr
  clear ha hr hq
  clear k1 k2 k3 hrt hrt0 hgt HC3 HL3 HB3 HC2 HB2 HC1 HB1 HWL HLY HV HMM
  obtain ⟨LB, hLB⟩ : ∃ LB, LB = w2.heap.size := ⟨_, rfl⟩
  obtain ⟨CB, hCB⟩ : ∃ CB, CB = w.heap.size := ⟨_, rfl⟩
  rw [← hLB] at HL4 ⊢
  have HC5 : Hid (Blk (W3.drewN nq) CB 40 [.int .i64 s, .int .i64 bt, .int .i64 m, .int .i64 lm, .int .i64 rv]) := Lib.hid (by rw [hCB]; exact HC4.out)
  rw [← hCB]
  clear HC4 hCB hLB HLC
  generalize W3.drewN nq = W4 at *
  go_loopw [8, 9] (fun o i wr => RsI w C g m CB LB [.int .i64 s, .int .i64 bt, .int .i64 m, .int .i64 lm, .int .i64 rv] (ints8 ly) o i wr) (fun _ i _ => C - (intOf i).toNat)
  case atStart => exact ⟨0, none, 0, by omega, rfl, rfl, Own.nilv _ _ _ _, HC5.out, HL4.out, HB4.out⟩
  case round =>
    obtain ⟨j, A, c, hj, rfl, rfl, hO, hcb, hlb, hB⟩ := hrel
    have HO := Lib.hid hO
    have HCB := Lib.hid hcb
    have HLB := Lib.hid hlb
    have HB := Lib.hid hB
    have k2 := hcb.cell (j := 2) (v := .int .i64 m) rfl
    have k3 := hlb.cell (j := 1) hl1
    have HS : Hid (wr.drew.cell? ⟨CB, 2, none⟩ = some (.int .i64 m) ∧ wr.drew.cell? ⟨LB, 1, none⟩ = some (.int .i64 C)) := Lib.hid ⟨k2, k3⟩
    clear hO hcb hlb hB
    by_cases hlt : j < C
    · by_cases hlo : j + r < C
      · obtain ⟨u, hu⟩ : ∃ u : Nat, u = shN C g m j := ⟨_, rfl⟩
        have hue : u = m * a := by rw [hu, shN, if_pos (by rw [← HR.out]; omega), ← HA.out, Nat.mul_comm]
        have hub : u ≤ 131072 + 6 := by rw [hue]; have h7 : m * a ≤ m * g := Nat.mul_le_mul_left m hag; omega
        have hmw : IntKind.i64.wrap ((m : Int) * (a : Int)) = (u : Int) := by
          have e9 : (m : Int) * (a : Int) = ((u : Nat) : Int) := by rw [hue]; push_cast; rfl
          rw [e9, IntKind.wrap_i64]; omega
        have hlw : decide ((j : Int) < (C : Int) - r) = true := by simp; omega
        have HUE := Lib.hid (show shr C g m j = (u : Int) by rw [shr_cast, hu])
        clear hu hue hj
        go_wp2_with fail
        refine wp_nopanic ?_
        refine P_start (fun W => W.cell? ⟨CB, 2, none⟩ = some (.int .i64 m) ∧ W.cell? ⟨LB, 1, none⟩ = some (.int .i64 C)) 8 11 #[false, false, false, false, false, false, false, false, false, false, false] (by kernel_rfl) (by kernel_rfl) (by kernel_rfl) ?_
        refine P_takeW 0 40 (.slice A j c) #[true, false, false, false, false, false, false, false, false, false, false] rfl rfl (by kernel_rfl) (by kernel_rfl) (by kernel_rfl) (by kernel_rfl) (by decide) (fun _ _ _ h => h) (Or.inl ⟨by rfl, fun W hS => by go_simp⟩) HS.out ?_
        simp only [List.setIfInBounds_toArray, List.set_cons_zero, List.set_cons_succ]
        refine P_takeW 1 41 (.pointer (some ⟨CB, 2, none⟩)) #[true, true, false, false, false, false, false, false, false, false, false] rfl rfl (by kernel_rfl) (by kernel_rfl) (by kernel_rfl) (by kernel_rfl) (by decide) (fun _ _ _ h => h) (Or.inl ⟨by rfl, fun W hS => by go_simp⟩) HS.out ?_
        simp only [List.setIfInBounds_toArray, List.set_cons_zero, List.set_cons_succ]
        refine P_takeT 2 42 (.int .i64 (m : Int)) #[true, true, true, false, false, false, false, false, false, false, false] [7] rfl rfl (by kernel_rfl) (by kernel_rfl) (by kernel_rfl) (by kernel_rfl) (by kernel_rfl) (by kernel_rfl) (by kernel_rfl) (by decide) (fun _ _ _ h => h) (Or.inl ⟨by rfl, fun W hS => by obtain ⟨hS1, hS2⟩ := hS; go_simp⟩) HS.out ?_
        simp only [List.setIfInBounds_toArray, List.set_cons_zero, List.set_cons_succ]
        refine P_takeW 3 43 (.int .i64 (g : Int)) #[true, true, true, true, false, false, false, false, false, false, false] rfl rfl (by kernel_rfl) (by kernel_rfl) (by kernel_rfl) (by kernel_rfl) (by decide) (fun _ _ _ h => h) (Or.inl ⟨by rfl, fun W hS => by go_simp⟩) HS.out ?_
        simp only [List.setIfInBounds_toArray, List.set_cons_zero, List.set_cons_succ]
        refine P_takeW 4 44 (.pointer (some ⟨LB, 1, none⟩)) #[true, true, true, true, true, false, false, false, false, false, false] rfl rfl (by kernel_rfl) (by kernel_rfl) (by kernel_rfl) (by kernel_rfl) (by decide) (fun _ _ _ h => h) (Or.inl ⟨by rfl, fun W hS => by go_simp⟩) HS.out ?_
        simp only [List.setIfInBounds_toArray, List.set_cons_zero, List.set_cons_succ]
        refine P_takeT 5 45 (.int .i64 (C : Int)) #[true, true, true, true, true, true, false, false, false, false, false] [7, 6] rfl rfl (by kernel_rfl) (by kernel_rfl) (by kernel_rfl) (by kernel_rfl) (by kernel_rfl) (by kernel_rfl) (by kernel_rfl) (by decide) (fun _ _ _ h => h) (Or.inl ⟨by rfl, fun W hS => by obtain ⟨hS1, hS2⟩ := hS; go_simp⟩) HS.out ?_
        simp only [List.setIfInBounds_toArray, List.set_cons_zero, List.set_cons_succ]
        refine P_takeW 6 46 (.int .i64 (a : Int)) #[true, true, true, true, true, true, true, false, false, false, false] rfl rfl (by kernel_rfl) (by kernel_rfl) (by kernel_rfl) (by kernel_rfl) (by decide) (fun _ _ _ h => h) (Or.inl ⟨by rfl, fun W hS => by go_simp; try simp only [hgq, haw0]⟩) HS.out ?_
        simp only [List.setIfInBounds_toArray, List.set_cons_zero, List.set_cons_succ]
        refine P_takeW 7 47 (.int .i64 (u : Int)) #[true, true, true, true, true, true, true, true, false, false, false] rfl rfl (by kernel_rfl) (by kernel_rfl) (by kernel_rfl) (by kernel_rfl) (by decide) (fun _ _ _ h => h) (Or.inl ⟨by rfl, fun W hS => by go_simp; try exact hmw⟩) HS.out ?_
        simp only [List.setIfInBounds_toArray, List.set_cons_zero, List.set_cons_succ]
        refine P_one 8 #[true, true, true, true, true, true, true, true, true, false, false] rfl (by kernel_rfl) (by kernel_rfl) rfl (by kernel_rfl) (fun K hK => ?_)
        go_simp
        refine hK _ _ ?_
        clear hK K
        refine P_one 9 #[true, true, true, true, true, true, true, true, true, true, false] rfl (by kernel_rfl) (by kernel_rfl) rfl (by kernel_rfl) (fun K hK => ?_)
        refine wp_app1d (w := wr) (base := w.heap.size) _ _ 60 rfl el34 rfl (.int .i64 (u : Int)) rfl rfl HO.out (by omega) (by omega) HB.out.size ?_
        intro A2 c2 w2 hO2 hg2
        have HO2 := Lib.hid hO2
        have HG2 := Lib.hid hg2
        clear hO2 hg2
        refine hK _ _ ?_
        clear hK K
        refine P_one 10 #[true, true, true, true, true, true, true, true, true, true, true] rfl (by kernel_rfl) (by kernel_rfl) rfl (by kernel_rfl) (fun K hK => ?_)
        go_simp
        refine hK _ _ ?_
        clear hK K
        refine P_done (by kernel_rfl) ?_ _
        refine noPanic_normal ?_
        have hcb2 : Blk w2 CB 40 [.int .i64 s, .int .i64 bt, .int .i64 m, .int .i64 lm, .int .i64 rv] := HCB.out.grown HG2.out (blk_ne_row HCB.out HO.out (by decide))
        have hlb2 : Blk w2 LB 51 (ints8 ly) := HLB.out.grown HG2.out (blk_ne_row HLB.out HO.out (by decide))
        have hb2 : Below w.heap.size w w2 := HB.out.grown HG2.out HB.out.size (fun k hk => Ownv.ob' HO.out hk)
        have hO9 : Own .i64 3 w2 w.heap.size A2 (j + 1) c2 (shT C g m (j + 1)) := by rw [shT_succ, HUE.out]; have := HO2.out; unfold Own; simpa using this
        go_wp2
        go_roundw
        case rel => exact ⟨j + 1, A2, c2, by omega, by go_num, rfl, hO9, hcb2, hlb2, hb2⟩
        case measure => simp [intOf]; omega
      · obtain ⟨u, hu⟩ : ∃ u : Nat, u = shN C g m j := ⟨_, rfl⟩
        have hue : u = m * (a + 1) := by rw [hu, shN, if_neg (by rw [← HR.out]; omega), ← HA.out, Nat.mul_comm]
        have hub : u ≤ 131072 + 6 := by rw [hue]; have h7 : m * a ≤ m * g := Nat.mul_le_mul_left m hag; rw [Nat.mul_add, Nat.mul_one]; omega
        have hmw : IntKind.i64.wrap ((m : Int) * ((a : Int) + 1)) = (u : Int) := by
          have e9 : (m : Int) * ((a : Int) + 1) = ((u : Nat) : Int) := by rw [hue]; push_cast; rfl
          rw [e9, IntKind.wrap_i64]; omega
        have hr0 : 0 < r := by omega
        have haw : IntKind.i64.wrap (((g : Int) + C - 1).tdiv C) = (a : Int) + 1 := by
          have e8 : (g : Int) + C - 1 = ((g + C - 1 : Nat) : Int) := by omega
          have e9 : (g + C - 1) / C = a + 1 := by
            have e10 : g + C - 1 = (r - 1) + C * (a + 1) := by rw [Nat.mul_add, Nat.mul_one]; omega
            rw [e10, Nat.add_mul_div_left _ _ (by omega), Nat.div_eq_of_lt (by omega), Nat.zero_add]
          rw [e8, Int.tdiv_eq_ediv_of_nonneg (by omega), ← Int.natCast_ediv, e9, IntKind.wrap_i64]; omega
        have hgc : IntKind.i64.wrap ((g : Int) + C) = (g : Int) + C := by rw [IntKind.wrap_i64]; omega
        have hgc1 : IntKind.i64.wrap ((g : Int) + C - 1) = (g : Int) + C - 1 := by rw [IntKind.wrap_i64]; omega
        have hlw : decide ((j : Int) < (C : Int) - r) = false := by simp; omega
        have HUE := Lib.hid (show shr C g m j = (u : Int) by rw [shr_cast, hu])
        clear hu hue hj
        go_wp2_with fail
        refine wp_nopanic ?_
        refine P_start (fun W => W.cell? ⟨CB, 2, none⟩ = some (.int .i64 m) ∧ W.cell? ⟨LB, 1, none⟩ = some (.int .i64 C)) 12 15 #[false, false, false, false, false, false, false, false, false, false, false, false, false, false, false] (by kernel_rfl) (by kernel_rfl) (by kernel_rfl) ?_
        refine P_takeW 0 50 (.slice A j c) #[true, false, false, false, false, false, false, false, false, false, false, false, false, false, false] rfl rfl (by kernel_rfl) (by kernel_rfl) (by kernel_rfl) (by kernel_rfl) (by decide) (fun _ _ _ h => h) (Or.inl ⟨by rfl, fun W hS => by go_simp⟩) HS.out ?_
        simp only [List.setIfInBounds_toArray, List.set_cons_zero, List.set_cons_succ]
        refine P_takeW 1 51 (.pointer (some ⟨CB, 2, none⟩)) #[true, true, false, false, false, false, false, false, false, false, false, false, false, false, false] rfl rfl (by kernel_rfl) (by kernel_rfl) (by kernel_rfl) (by kernel_rfl) (by decide) (fun _ _ _ h => h) (Or.inl ⟨by rfl, fun W hS => by go_simp⟩) HS.out ?_
        simp only [List.setIfInBounds_toArray, List.set_cons_zero, List.set_cons_succ]
        refine P_takeT 2 52 (.int .i64 (m : Int)) #[true, true, true, false, false, false, false, false, false, false, false, false, false, false, false] [11] rfl rfl (by kernel_rfl) (by kernel_rfl) (by kernel_rfl) (by kernel_rfl) (by kernel_rfl) (by kernel_rfl) (by kernel_rfl) (by decide) (fun _ _ _ h => h) (Or.inl ⟨by rfl, fun W hS => by obtain ⟨hS1, hS2⟩ := hS; go_simp⟩) HS.out ?_
        simp only [List.setIfInBounds_toArray, List.set_cons_zero, List.set_cons_succ]
        refine P_takeW 3 53 (.int .i64 (g : Int)) #[true, true, true, true, false, false, false, false, false, false, false, false, false, false, false] rfl rfl (by kernel_rfl) (by kernel_rfl) (by kernel_rfl) (by kernel_rfl) (by decide) (fun _ _ _ h => h) (Or.inl ⟨by rfl, fun W hS => by go_simp⟩) HS.out ?_
        simp only [List.setIfInBounds_toArray, List.set_cons_zero, List.set_cons_succ]
        refine P_takeW 4 54 (.pointer (some ⟨LB, 1, none⟩)) #[true, true, true, true, true, false, false, false, false, false, false, false, false, false, false] rfl rfl (by kernel_rfl) (by kernel_rfl) (by kernel_rfl) (by kernel_rfl) (by decide) (fun _ _ _ h => h) (Or.inl ⟨by rfl, fun W hS => by go_simp⟩) HS.out ?_
        simp only [List.setIfInBounds_toArray, List.set_cons_zero, List.set_cons_succ]
        refine P_takeT 5 55 (.int .i64 (C : Int)) #[true, true, true, true, true, true, false, false, false, false, false, false, false, false, false] [11, 10, 7, 6] rfl rfl (by kernel_rfl) (by kernel_rfl) (by kernel_rfl) (by kernel_rfl) (by kernel_rfl) (by kernel_rfl) (by kernel_rfl) (by decide) (fun _ _ _ h => h) (Or.inl ⟨by rfl, fun W hS => by obtain ⟨hS1, hS2⟩ := hS; go_simp⟩) HS.out ?_
        simp only [List.setIfInBounds_toArray, List.set_cons_zero, List.set_cons_succ]
        refine P_takeW 6 56 (.int .i64 ((g : Int) + C)) #[true, true, true, true, true, true, true, false, false, false, false, false, false, false, false] rfl rfl (by kernel_rfl) (by kernel_rfl) (by kernel_rfl) (by kernel_rfl) (by decide) (fun _ _ _ h => h) (Or.inl ⟨by rfl, fun W hS => by go_simp⟩) HS.out ?_
        simp only [List.setIfInBounds_toArray, List.set_cons_zero, List.set_cons_succ]
        refine P_takeW 7 57 (.int .i64 ((g : Int) + C - 1)) #[true, true, true, true, true, true, true, true, false, false, false, false, false, false, false] rfl rfl (by kernel_rfl) (by kernel_rfl) (by kernel_rfl) (by kernel_rfl) (by decide) (fun _ _ _ h => h) (Or.inl ⟨by rfl, fun W hS => by go_simp⟩) HS.out ?_
        simp only [List.setIfInBounds_toArray, List.set_cons_zero, List.set_cons_succ]
        refine P_takeW 8 58 (.pointer (some ⟨LB, 1, none⟩)) #[true, true, true, true, true, true, true, true, true, false, false, false, false, false, false] rfl rfl (by kernel_rfl) (by kernel_rfl) (by kernel_rfl) (by kernel_rfl) (by decide) (fun _ _ _ h => h) (Or.inl ⟨by rfl, fun W hS => by go_simp⟩) HS.out ?_
        simp only [List.setIfInBounds_toArray, List.set_cons_zero, List.set_cons_succ]
        refine P_takeT 9 59 (.int .i64 (C : Int)) #[true, true, true, true, true, true, true, true, true, true, false, false, false, false, false] [11, 10] rfl rfl (by kernel_rfl) (by kernel_rfl) (by kernel_rfl) (by kernel_rfl) (by kernel_rfl) (by kernel_rfl) (by kernel_rfl) (by decide) (fun _ _ _ h => h) (Or.inl ⟨by rfl, fun W hS => by obtain ⟨hS1, hS2⟩ := hS; go_simp⟩) HS.out ?_
        simp only [List.setIfInBounds_toArray, List.set_cons_zero, List.set_cons_succ]
        refine P_takeW 10 60 (.int .i64 ((a : Int) + 1)) #[true, true, true, true, true, true, true, true, true, true, true, false, false, false, false] rfl rfl (by kernel_rfl) (by kernel_rfl) (by kernel_rfl) (by kernel_rfl) (by decide) (fun _ _ _ h => h) (Or.inl ⟨by rfl, fun W hS => by go_simp; try exact haw⟩) HS.out ?_
        simp only [List.setIfInBounds_toArray, List.set_cons_zero, List.set_cons_succ]
        refine P_takeW 11 61 (.int .i64 (u : Int)) #[true, true, true, true, true, true, true, true, true, true, true, true, false, false, false] rfl rfl (by kernel_rfl) (by kernel_rfl) (by kernel_rfl) (by kernel_rfl) (by decide) (fun _ _ _ h => h) (Or.inl ⟨by rfl, fun W hS => by go_simp; try exact hmw⟩) HS.out ?_
        simp only [List.setIfInBounds_toArray, List.set_cons_zero, List.set_cons_succ]
        refine P_one 12 #[true, true, true, true, true, true, true, true, true, true, true, true, true, false, false] rfl (by kernel_rfl) (by kernel_rfl) rfl (by kernel_rfl) (fun K hK => ?_)
        go_simp
        refine hK _ _ ?_
        clear hK K
        refine P_one 13 #[true, true, true, true, true, true, true, true, true, true, true, true, true, true, false] rfl (by kernel_rfl) (by kernel_rfl) rfl (by kernel_rfl) (fun K hK => ?_)
        refine wp_app1d (w := wr) (base := w.heap.size) _ _ 60 rfl el34 rfl (.int .i64 (u : Int)) rfl rfl HO.out (by omega) (by omega) HB.out.size ?_
        intro A2 c2 w2 hO2 hg2
        have HO2 := Lib.hid hO2
        have HG2 := Lib.hid hg2
        clear hO2 hg2
        refine hK _ _ ?_
        clear hK K
        refine P_one 14 #[true, true, true, true, true, true, true, true, true, true, true, true, true, true, true] rfl (by kernel_rfl) (by kernel_rfl) rfl (by kernel_rfl) (fun K hK => ?_)
        go_simp
        refine hK _ _ ?_
        clear hK K
        refine P_done (by kernel_rfl) ?_ _
        refine noPanic_normal ?_
        have hcb2 : Blk w2 CB 40 [.int .i64 s, .int .i64 bt, .int .i64 m, .int .i64 lm, .int .i64 rv] := HCB.out.grown HG2.out (blk_ne_row HCB.out HO.out (by decide))
        have hlb2 : Blk w2 LB 51 (ints8 ly) := HLB.out.grown HG2.out (blk_ne_row HLB.out HO.out (by decide))
        have hb2 : Below w.heap.size w w2 := HB.out.grown HG2.out HB.out.size (fun k hk => Ownv.ob' HO.out hk)
        have hO9 : Own .i64 3 w2 w.heap.size A2 (j + 1) c2 (shT C g m (j + 1)) := by rw [shT_succ, HUE.out]; have := HO2.out; unfold Own; simpa using this
        go_wp2
        go_roundw
        case rel => exact ⟨j + 1, A2, c2, by omega, by go_num, rfl, hO9, hcb2, hlb2, hb2⟩
        case measure => simp [intOf]; omega
    · obtain rfl : j = C := by omega
      have hB9 := HB.out
      go_wp2
      go_ret2
      exact ⟨A, c, rfl, HO.out, HB.out⟩
end Go.Proofs.YtcbbkflnenkpgaaGreat

namespace Go.Proofs.YtcbbkflnenkpgaaGreat
open Go.RowKit Go.Shelf
set_option linter.unusedVariables false
theorem P_oneSG {P : Program} {ops : Array Oper} {Q : Exit → Act → World → Prop} {md : Region.Mode} {S : World → Prop} {p : Nat} (i : Nat) (l' : Array Bool) {oi : Oper} {fuel : Nat} {listed : Array Bool} {a : Act} {w : World} (hi : ops[i]? = some oi) (hl : listed.setIfInBounds i true = l') (hr : Region.ready md ops listed = [i]) (hg : Region.wanted oi (yielded ops a.tmps) = true)
    (h : ∀ K : Act → World → Prop, (∀ a' w', S w' → wpAnyP P md ops Q S p fuel l' a' w' → K a' w') → oi.wp P a w K Q) : wpAnyP P md ops Q S p (fuel + 1) listed a w := by
  subst hl
  refine ⟨fun h0 => ?_, fun j hj => ?_⟩
  · rw [hr] at h0
    cases h0
  · rw [hr] at hj
    have hj' : j = i := by simpa using hj
    subst hj'
    unfold wpOp
    simp only [hi]
    rw [if_pos hg]
    exact .inl (h _ fun _ _ h1 h2 => ⟨fun _ => h1, h2⟩)
/-- the blocks have places for their values -/
def okS (b : Nat) (lm : Int) (C g m : Nat) : Prop := ∀ q, q < C → ¬ bad49 b lm C g m q
def RuI (W : World) (b : Nat) (lm : Int) (C g m : Nat) (i : Value) (wr : World) : Prop := ∃ j : Nat, j ≤ C ∧ i = .int .i64 j ∧ (∀ q, q < j → ¬ bad49 b lm C g m q) ∧ Below W.heap.size W wr
set_option maxRecDepth 100000 in
set_option maxHeartbeats 2000000 in
theorem rusable_ok (s C g m : Nat) (lm rv : Int) (w : World) (hs1 : 1 ≤ s) (hs2 : s ≤ 79536) (hCe : C = bC (s + 24)) (hmm : m = 2 ∨ m = 4 ∨ m = 6) (hgm : m * g ≤ 131072) (hlm : 1 ≤ lm) (hrv : 0 ≤ rv ∧ rv ≤ 3) :
    Calls Tryz.prog 33 #[.agg #[.int .i64 s, .int .i64 ((m * g : Nat) : Int), .int .i64 m, .int .i64 lm, .int .i64 rv]] w fun e w' => ∃ r : Bool, e = .returned (.bool r) ∧ (r = true ↔ okS (s + 24) lm C g m) ∧ Below w.heap.size w w' := by
  have HSH := Lib.hid (fun W => rshares_ok s C g m lm rv W hs1 hs2 hCe hmm hgm hlm hrv)
  have HLY := Lib.hid (fun W => rlay_any s W)
  have hly : ly15 s = (LY (s + 24), 0) := by unfold ly15; rw [if_neg (by omega)]; rfl
  rw [hly] at HLY
  have HEA := Lib.hid (fun W => reach_ok (s + 24) W (by omega) (by omega))
  obtain ⟨bt, hbt⟩ : ∃ bt, bt = ((m * g : Nat) : Int) := ⟨_, rfl⟩
  obtain ⟨b, hb⟩ : ∃ b, b = s + 24 := ⟨_, rfl⟩
  rw [← hb] at HLY HEA hCe ⊢
  rw [← hCe] at HEA
  rw [show ((b : Nat) : Int) = (s : Int) + 24 by omega] at HEA
  have hb1 : 1 ≤ b := by omega
  have hC2 : C ≤ 13 := by rw [hCe]; exact bC_le (by omega)
  rw [← hbt] at HSH ⊢
  have hsw : IntKind.i64.wrap ((s : Int) + 24) = (s : Int) + 24 := by rw [IntKind.wrap_i64]; omega
  have HGM : Hid (∀ q, shN C g m q ≤ 900000) := Lib.hid (fun q => by
    have h7 : (g / C + 1) * m ≤ (g + 1) * m := Nat.mul_le_mul_right m (Nat.succ_le_succ (Nat.div_le_self _ _))
    have h8 : g / C * m ≤ g * m := Nat.mul_le_mul_right m (Nat.div_le_self _ _)
    have h9 : (g + 1) * m = g * m + m := by rw [Nat.add_mul, Nat.one_mul]
    have h10 : g * m = m * g := Nat.mul_comm _ _
    unfold shN; split <;> omega)
  clear hbt hly hCe hmm hrv hgm hb
  have HC0 := Lib.hid (Blk.new w [.int .i64 s, .int .i64 bt, .int .i64 m, .int .i64 lm, .int .i64 rv] 40 rfl)
  have HB0 := Lib.hid (bal (Below.refl _ w) (.cells [Value.int .i64 s, .int .i64 bt, .int .i64 m, .int .i64 lm, .int .i64 rv].toArray 40))
  have hc0 := HC0.out
  go_enter Tryz.func33, Tryz.ntmps33
  go_wp2_with (first
    | (refine ldrow (cs := [.int .i64 s, .int .i64 bt, .int .i64 m, .int .i64 lm, .int .i64 rv]) rfl 40 (.tmp 1) rfl rfl hc0 _ Tryz.underlying40 rfl (by kernel_rfl) ?_)
    | (go_at_call 32; refine (HSH.out _).mono ?_; rintro e w1 ⟨An, cn, rfl, hOn, hB1⟩; have HN1 := Lib.hid (Own.rd hOn); have HC1 := Lib.hid (HC0.out.below hB1); have HB1 := Lib.hid (HB0.out.trans (hB1.mono HB0.out.size)); have k0 := HC1.out.cell (j := 0) (v := .int .i64 s) rfl; clear hB1 hc0 HC0 HB0 hOn)
    | (go_at_call 34; refine (HLY.out _).mono ?_; rintro e w2 ⟨rfl, hB2⟩; have hL0 : Blk (w2.alloc (.cells (ints8 zero7).toArray 51)) w2.heap.size 51 (ints8 zero7) := Blk.new w2 _ 51 rfl; have HN2 := Lib.hid (Rdv.alloc (Rdv.below HN1.out hB2) (.cells #[.int .i64 0, .int .i64 0, .int .i64 0, .int .i64 0, .int .i64 0, .int .i64 0, .int .i64 0] 51)); have HNL : Hid (An ≠ none → 0 < cn → blk An < w2.heap.size) := Lib.hid (fun hA hc => by obtain ⟨bb, oo, rfl, h9⟩ := Rdv.ptr (Rdv.below HN1.out hB2) hc; exact h9); have HC2 := Lib.hid ((HC1.out.below hB2).alloc (.cells #[.int .i64 0, .int .i64 0, .int .i64 0, .int .i64 0, .int .i64 0, .int .i64 0, .int .i64 0] 51)); have HB2 := Lib.hid (bal (HB1.out.trans (hB2.mono HB1.out.size)) (.cells #[.int .i64 0, .int .i64 0, .int .i64 0, .int .i64 0, .int .i64 0, .int .i64 0, .int .i64 0] 51)); have HLC := Lib.hid (Nat.lt_of_lt_of_le HC1.out.lt hB2.size); have HWL := Lib.hid (Nat.le_trans HB1.out.size hB2.size); clear hB2 k0; simp only [ints8, zero7, List.map_cons, List.map_nil] at hL0)
    | (refine strow (cs := ints8 (LY b)) rfl 51 (.tmp 5) (.tmp 18) rfl rfl rfl hL0 (by simp [ints8, LY]) (by rw [info23]; simp [ints8, LY]) (ints8_one _) ?_
       intro W3 g1 g2
       have HC3 := Lib.hid (HC2.out.grown g2 (fun e => by have h7 := HLC.out; have h8 := Option.some.inj e; omega))
       have HN3 := Lib.hid (Rdv.grown0 HN2.out g2 (fun hc e => by
         have h8 := Option.some.inj e
         by_cases hA : An = none
         · have := Rdv.nil HN2.out hA; omega
         · have := HNL.out hA hc; omega))
       have HB3 := Lib.hid (HB2.out.grown g2 HB2.out.size (fun k hk => by cases hk; exact HWL.out))
       have HL3 := Lib.hid g1
       have k1 := HC3.out.cell (j := 0) (v := .int .i64 s) rfl
       clear g1 g2 hL0)
    | (go_at_call 73; refine (HEA.out _).mono ?_; rintro e w4 ⟨Ak, ck, rfl, hOk, hB4⟩; have HK4 := Lib.hid (Own.rd hOk); have HN4 := Lib.hid (Rdv.below HN3.out hB4); have HL4 := Lib.hid (HL3.out.below hB4); have HC4 := Lib.hid (HC3.out.below hB4); have HB4 := Lib.hid (HB3.out.trans (hB4.mono HB3.out.size)); clear hOk hB4 k1 HC3 HN3 HB3 HL3 HC2 HN2 HB2))
  obtain ⟨LB, hLB⟩ : ∃ LB, LB = w2.heap.size := ⟨_, rfl⟩
  obtain ⟨CB, hCB⟩ : ∃ CB, CB = w.heap.size := ⟨_, rfl⟩
  rw [← hLB] at HL4 ⊢
  have HC5 : Hid (Blk w4 CB 40 [.int .i64 s, .int .i64 bt, .int .i64 m, .int .i64 lm, .int .i64 rv]) := Lib.hid (by rw [hCB]; exact HC4.out)
  rw [← hCB]
  clear HC4 hCB hLB HLC HNL HWL HC1 HN1 HB1 HEA HLY HSH
  go_loopw [8] (fun i wr => RuI w4 b lm C g m i wr) (fun i _ => C - (intOf i).toNat)
  case atStart => exact ⟨0, by omega, rfl, by omega, Below.refl _ _⟩
  case round =>
    obtain ⟨j, hj, rfl, hok, hB⟩ := hrel
    have HOK := Lib.hid hok
    have HB := Lib.hid hB
    clear hok
    have HBW := Lib.hid (HB4.out.trans (hB.mono HB4.out.size))
    by_cases hlt : j < C
    · have cN := Rd.cell (Rdv.below HN4.out hB) (j := j) hlt
      rw [shT_gi _ _ _ _ _ hlt, shr_cast] at cN
      have cK := Rd.cell (Rdv.below HK4.out hB) (j := j) hlt
      rw [gi_szs _ _ _ hlt] at cK
      have ixN := fun W => Rdv.ix HN4.out el34 (j := j) hlt .i64 W
      have ixK := fun W => Rdv.ix HK4.out el34 (j := j) hlt .i64 W
      have cB := (HC5.out.below hB).cell (j := 3) (v := .int .i64 lm) rfl
      have hLr := HL4.out.below hB
      have hub := HGM.out j
      obtain ⟨u, hu⟩ : ∃ u, u = shN C g m j := ⟨_, rfl⟩
      rw [← hu] at cN hub
      have HUE := Lib.hid hu
      clear hu hB
      by_cases hu0 : 0 < u
      · have hq : decide ((u : Int) > 0) = true := by simp; omega
        have HBU := Lib.hid (fun W => rbuf_ok (sz b j) (fl b j) lm W (sz_40 b j) (sz_ge (i := j) hb1).2 (fl_lt hb1) hlm)
        obtain ⟨U, hU⟩ : ∃ U, U = uS b lm j := ⟨_, rfl⟩
        have HU : Hid (usC ((bufL (sz b j) (fl b j)).take (szB (sz b j) lm)) = U) := Lib.hid (by rw [hU]; rfl)
        have HSZ : Hid (szB (sz b j) lm ≤ 100000) := Lib.hid (by have h7 := szB_bd (sz b j) hlm; have h8 := nB_le (sz_ge (i := j) hb1).2; omega)
        have HUS := Lib.hid hU
        have HS : Hid ((wr.drew.cell? (adr An j) = some (.int .i64 (u : Int)) ∧ wr.drew.cell? (adr Ak j) = some (.int .i64 (sz b j : Int))) ∧ Blk wr.drew LB 51 (ints8 (LY b)) ∧ wr.drew.cell? ⟨CB, 3, none⟩ = some (.int .i64 lm)) := Lib.hid ⟨⟨cN, cK⟩, hLr, cB⟩
        clear hU hLr
        by_cases hU0 : U = 0
        · have hqU : ((U : Int) == 0) = true := beq_t (by omega)
          have HU0 := Lib.hid hU0
          clear hU0
          go_wp2_with fail
          refine wp_nopanic ?_
          refine P_start (fun W => (W.cell? (adr An j) = some (.int .i64 (u : Int)) ∧ W.cell? (adr Ak j) = some (.int .i64 (sz b j : Int))) ∧ Blk W LB 51 (ints8 (LY b)) ∧ W.cell? ⟨CB, 3, none⟩ = some (.int .i64 lm)) 15 19 #[false, false, false, false, false, false, false, false, false, false, false, false, false, false, false, false, false, false, false] (by kernel_rfl) (by kernel_rfl) (by kernel_rfl) ?_
          refine P_takeW 0 34 (.slice An C cn) #[true, false, false, false, false, false, false, false, false, false, false, false, false, false, false, false, false, false, false] rfl rfl (by kernel_rfl) (by kernel_rfl) (by kernel_rfl) (by kernel_rfl) (by decide) (fun _ _ _ h => h) (Or.inl ⟨by rfl, fun W hS => by go_simp⟩) HS.out ?_
          simp only [List.setIfInBounds_toArray, List.set_cons_zero, List.set_cons_succ]
          refine P_takeW 1 35 (.int .i64 (j : Int)) #[true, true, false, false, false, false, false, false, false, false, false, false, false, false, false, false, false, false, false] rfl rfl (by kernel_rfl) (by kernel_rfl) (by kernel_rfl) (by kernel_rfl) (by decide) (fun _ _ _ h => h) (Or.inl ⟨by rfl, fun W hS => by go_simp⟩) HS.out ?_
          simp only [List.setIfInBounds_toArray, List.set_cons_zero, List.set_cons_succ]
          refine P_takeW 2 36 (.pointer (some (adr An j))) #[true, true, true, false, false, false, false, false, false, false, false, false, false, false, false, false, false, false, false] rfl rfl (by kernel_rfl) (by kernel_rfl) (by kernel_rfl) (by kernel_rfl) (by decide) (fun _ _ _ h => h) (Or.inl ⟨by rfl, fun W hS => by go_simp⟩) HS.out ?_
          simp only [List.setIfInBounds_toArray, List.set_cons_zero, List.set_cons_succ]
          refine P_takeT 3 37 (.int .i64 (u : Int)) #[true, true, true, true, false, false, false, false, false, false, false, false, false, false, false, false, false, false, false] [5, 4] rfl rfl (by kernel_rfl) (by kernel_rfl) (by kernel_rfl) (by kernel_rfl) (by kernel_rfl) (by kernel_rfl) (by kernel_rfl) (by decide) (fun _ _ _ h => h) (Or.inl ⟨by rfl, fun W hS => by obtain ⟨⟨hS1, hS2⟩, hS3, hS4⟩ := hS; go_simp⟩) HS.out ?_
          simp only [List.setIfInBounds_toArray, List.set_cons_zero, List.set_cons_succ]
          refine P_takeW 4 38 (.bool true) #[true, true, true, true, true, false, false, false, false, false, false, false, false, false, false, false, false, false, false] rfl rfl (by kernel_rfl) (by kernel_rfl) (by kernel_rfl) (by kernel_rfl) (by decide) (fun _ _ _ h => h) (Or.inl ⟨by rfl, fun W hS => by go_simp⟩) HS.out ?_
          simp only [List.setIfInBounds_toArray, List.set_cons_zero, List.set_cons_succ]
          refine P_takeW 5 39 (.bool true) #[true, true, true, true, true, true, false, false, false, false, false, false, false, false, false, false, false, false, false] rfl rfl (by kernel_rfl) (by kernel_rfl) (by kernel_rfl) (by kernel_rfl) (by decide) (fun _ _ _ h => h) (Or.inl ⟨by rfl, fun W hS => by go_simp⟩) HS.out ?_
          simp only [List.setIfInBounds_toArray, List.set_cons_zero, List.set_cons_succ]
          refine P_takeW 6 40 (.slice Ak C ck) #[true, true, true, true, true, true, true, false, false, false, false, false, false, false, false, false, false, false, false] rfl rfl (by kernel_rfl) (by kernel_rfl) (by kernel_rfl) (by kernel_rfl) (by decide) (fun _ _ _ h => h) (Or.inl ⟨by rfl, fun W hS => by go_simp⟩) HS.out ?_
          simp only [List.setIfInBounds_toArray, List.set_cons_zero, List.set_cons_succ]
          refine P_takeW 7 41 (.int .i64 (j : Int)) #[true, true, true, true, true, true, true, true, false, false, false, false, false, false, false, false, false, false, false] rfl rfl (by kernel_rfl) (by kernel_rfl) (by kernel_rfl) (by kernel_rfl) (by decide) (fun _ _ _ h => h) (Or.inl ⟨by rfl, fun W hS => by go_simp⟩) HS.out ?_
          simp only [List.setIfInBounds_toArray, List.set_cons_zero, List.set_cons_succ]
          refine P_takeW 8 42 (.pointer (some (adr Ak j))) #[true, true, true, true, true, true, true, true, true, false, false, false, false, false, false, false, false, false, false] rfl rfl (by kernel_rfl) (by kernel_rfl) (by kernel_rfl) (by kernel_rfl) (by decide) (fun _ _ _ h => h) (Or.inl ⟨by rfl, fun W hS => by go_simp⟩) HS.out ?_
          simp only [List.setIfInBounds_toArray, List.set_cons_zero, List.set_cons_succ]
          refine P_take 9 43 (.int .i64 (sz b j : Int)) #[true, true, true, true, true, true, true, true, true, true, false, false, false, false, false, false, false, false, false] rfl rfl (by kernel_rfl) (by kernel_rfl) (by kernel_rfl) (by kernel_rfl) (by kernel_rfl) (by kernel_rfl) (by decide) (fun _ _ _ h => h) (Or.inl ⟨by rfl, fun W hS => by obtain ⟨⟨hS1, hS2⟩, hS3, hS4⟩ := hS; go_simp⟩) HS.out ?_
          simp only [List.setIfInBounds_toArray, List.set_cons_zero, List.set_cons_succ]
          refine P_takeT 10 44 (.agg (ints8 (LY b)).toArray) #[true, true, true, true, true, true, true, true, true, true, true, false, false, false, false, false, false, false, false] [12] rfl rfl (by kernel_rfl) (by kernel_rfl) (by kernel_rfl) (by kernel_rfl) (by kernel_rfl) (by kernel_rfl) (by kernel_rfl) (by decide) (fun _ _ _ h => h) (yieldsIf_load_mid rfl 51 (.tmp 5) rfl LB (0) rfl (ints8 (LY b)) _ (fun W hS => fun q v hv => hS.2.1.cell (by rw [Nat.zero_add]; exact hv)) Tryz.underlying51 rfl (by rw [info23]; rfl)) HS.out ?_
          simp only [List.setIfInBounds_toArray, List.set_cons_zero, List.set_cons_succ]
          refine P_takeW 11 45 (.int .i64 (j : Int)) #[true, true, true, true, true, true, true, true, true, true, true, true, false, false, false, false, false, false, false] rfl rfl (by kernel_rfl) (by kernel_rfl) (by kernel_rfl) (by kernel_rfl) (by decide) (fun _ _ _ h => h) (Or.inl ⟨by rfl, fun W hS => by go_simp⟩) HS.out ?_
          simp only [List.setIfInBounds_toArray, List.set_cons_zero, List.set_cons_succ]
          refine P_takeW 13 47 (.pointer (some ⟨CB, 3, none⟩)) #[true, true, true, true, true, true, true, true, true, true, true, true, false, true, false, false, false, false, false] rfl rfl (by kernel_rfl) (by kernel_rfl) (by kernel_rfl) (by kernel_rfl) (by decide) (fun _ _ _ h => h) (Or.inl ⟨by rfl, fun W hS => by go_simp⟩) HS.out ?_
          simp only [List.setIfInBounds_toArray, List.set_cons_zero, List.set_cons_succ]
          refine P_take 14 48 (.int .i64 lm) #[true, true, true, true, true, true, true, true, true, true, true, true, false, true, true, false, false, false, false] rfl rfl (by kernel_rfl) (by kernel_rfl) (by kernel_rfl) (by kernel_rfl) (by kernel_rfl) (by kernel_rfl) (by decide) (fun _ _ _ h => h) (Or.inl ⟨by rfl, fun W hS => by obtain ⟨⟨hS1, hS2⟩, hS3, hS4⟩ := hS; go_simp⟩) HS.out ?_
          simp only [List.setIfInBounds_toArray, List.set_cons_zero, List.set_cons_succ]
          refine P_oneSG 12 #[true, true, true, true, true, true, true, true, true, true, true, true, true, true, true, false, false, false, false] rfl (by kernel_rfl) (by kernel_rfl) (by rfl) (fun K hK => ?_)
          go_simp
          refine (rfil_any b j _).mono ?_
          rintro e wa ⟨rfl, hBa⟩
          have HSa : Hid ((wa.cell? (adr An j) = some (.int .i64 (u : Int)) ∧ wa.cell? (adr Ak j) = some (.int .i64 (sz b j : Int))) ∧ Blk wa LB 51 (ints8 (LY b)) ∧ wa.cell? ⟨CB, 3, none⟩ = some (.int .i64 lm)) := Lib.hid ⟨⟨cell_below (w := wr.drew) HS.out.1.1 hBa, cell_below (w := wr.drew) HS.out.1.2 hBa⟩, HS.out.2.1.below hBa, cell_below (w := wr.drew) HS.out.2.2 hBa⟩
          have HBa := Lib.hid (((Below.refl wr.heap.size wr).drew).trans hBa)
          clear hBa
          refine hK _ _ HSa.out ?_
          clear hK K
          refine P_oneG 15 #[true, true, true, true, true, true, true, true, true, true, true, true, true, true, true, true, false, false, false] rfl (by kernel_rfl) (by kernel_rfl) (by rfl) (by kernel_rfl) (fun K hK => ?_)
          go_simp
          refine (HBU.out wa).mono ?_
          rintro e wb ⟨Ab, cb, rfl, hRb, hBb⟩
          have HRb := Lib.hid hRb
          have HBb := Lib.hid (HBa.out.trans (hBb.mono HBa.out.size))
          clear hRb hBb
          refine hK _ _ ?_
          clear hK K
          refine P_oneG 16 #[true, true, true, true, true, true, true, true, true, true, true, true, true, true, true, true, true, false, false] rfl (by kernel_rfl) (by kernel_rfl) (by rfl) (by kernel_rfl) (fun K hK => ?_)
          go_simp
          refine (rus_any Ab _ cb _ wb HRb.out HSZ.out).mono ?_
          rintro e wc ⟨rfl, hQc⟩
          have HBc := Lib.hid (HBb.out.trans (hQc.below _))
          clear hQc
          rw [HU.out]
          refine hK _ _ ?_
          clear hK K
          refine P_oneG 17 #[true, true, true, true, true, true, true, true, true, true, true, true, true, true, true, true, true, true, false] rfl (by kernel_rfl) (by kernel_rfl) (by rfl) (by kernel_rfl) (fun K hK => ?_)
          go_simp
          refine hK _ _ ?_
          clear hK K
          refine P_one 18 #[true, true, true, true, true, true, true, true, true, true, true, true, true, true, true, true, true, true, true] rfl (by kernel_rfl) (by kernel_rfl) rfl (by kernel_rfl) (fun K hK => ?_)
          go_simp
          refine hK _ _ ?_
          clear hK K
          refine P_done (by kernel_rfl) ?_ _
          refine noPanic_normal ?_
          have HBX := Lib.hid (HBW.out.trans (HBc.out.mono HBW.out.size))
          have HBY := Lib.hid (HB.out.trans (HBc.out.mono HB.out.size))
          have HBD : Hid (¬ okS b lm C g m) := Lib.hid (fun h => h j hlt ⟨by rw [← HUS.out]; exact HU0.out, by rw [← HUE.out]; exact hu0⟩)
          go_wp2
          go_ret
          exact ⟨false, rfl, ⟨nofun, fun h => (HBD.out h).elim⟩, HBX.out⟩
        · have hqU : ((U : Int) == 0) = false := beq_f (by omega)
          have HU0 := Lib.hid hU0
          clear hU0
          go_wp2_with fail
          refine wp_nopanic ?_
          refine P_start (fun W => (W.cell? (adr An j) = some (.int .i64 (u : Int)) ∧ W.cell? (adr Ak j) = some (.int .i64 (sz b j : Int))) ∧ Blk W LB 51 (ints8 (LY b)) ∧ W.cell? ⟨CB, 3, none⟩ = some (.int .i64 lm)) 15 19 #[false, false, false, false, false, false, false, false, false, false, false, false, false, false, false, false, false, false, false] (by kernel_rfl) (by kernel_rfl) (by kernel_rfl) ?_
          refine P_takeW 0 34 (.slice An C cn) #[true, false, false, false, false, false, false, false, false, false, false, false, false, false, false, false, false, false, false] rfl rfl (by kernel_rfl) (by kernel_rfl) (by kernel_rfl) (by kernel_rfl) (by decide) (fun _ _ _ h => h) (Or.inl ⟨by rfl, fun W hS => by go_simp⟩) HS.out ?_
          simp only [List.setIfInBounds_toArray, List.set_cons_zero, List.set_cons_succ]
          refine P_takeW 1 35 (.int .i64 (j : Int)) #[true, true, false, false, false, false, false, false, false, false, false, false, false, false, false, false, false, false, false] rfl rfl (by kernel_rfl) (by kernel_rfl) (by kernel_rfl) (by kernel_rfl) (by decide) (fun _ _ _ h => h) (Or.inl ⟨by rfl, fun W hS => by go_simp⟩) HS.out ?_
          simp only [List.setIfInBounds_toArray, List.set_cons_zero, List.set_cons_succ]
          refine P_takeW 2 36 (.pointer (some (adr An j))) #[true, true, true, false, false, false, false, false, false, false, false, false, false, false, false, false, false, false, false] rfl rfl (by kernel_rfl) (by kernel_rfl) (by kernel_rfl) (by kernel_rfl) (by decide) (fun _ _ _ h => h) (Or.inl ⟨by rfl, fun W hS => by go_simp⟩) HS.out ?_
          simp only [List.setIfInBounds_toArray, List.set_cons_zero, List.set_cons_succ]
          refine P_takeT 3 37 (.int .i64 (u : Int)) #[true, true, true, true, false, false, false, false, false, false, false, false, false, false, false, false, false, false, false] [5, 4] rfl rfl (by kernel_rfl) (by kernel_rfl) (by kernel_rfl) (by kernel_rfl) (by kernel_rfl) (by kernel_rfl) (by kernel_rfl) (by decide) (fun _ _ _ h => h) (Or.inl ⟨by rfl, fun W hS => by obtain ⟨⟨hS1, hS2⟩, hS3, hS4⟩ := hS; go_simp⟩) HS.out ?_
          simp only [List.setIfInBounds_toArray, List.set_cons_zero, List.set_cons_succ]
          refine P_takeW 4 38 (.bool true) #[true, true, true, true, true, false, false, false, false, false, false, false, false, false, false, false, false, false, false] rfl rfl (by kernel_rfl) (by kernel_rfl) (by kernel_rfl) (by kernel_rfl) (by decide) (fun _ _ _ h => h) (Or.inl ⟨by rfl, fun W hS => by go_simp⟩) HS.out ?_
          simp only [List.setIfInBounds_toArray, List.set_cons_zero, List.set_cons_succ]
          refine P_takeW 5 39 (.bool true) #[true, true, true, true, true, true, false, false, false, false, false, false, false, false, false, false, false, false, false] rfl rfl (by kernel_rfl) (by kernel_rfl) (by kernel_rfl) (by kernel_rfl) (by decide) (fun _ _ _ h => h) (Or.inl ⟨by rfl, fun W hS => by go_simp⟩) HS.out ?_
          simp only [List.setIfInBounds_toArray, List.set_cons_zero, List.set_cons_succ]
          refine P_takeW 6 40 (.slice Ak C ck) #[true, true, true, true, true, true, true, false, false, false, false, false, false, false, false, false, false, false, false] rfl rfl (by kernel_rfl) (by kernel_rfl) (by kernel_rfl) (by kernel_rfl) (by decide) (fun _ _ _ h => h) (Or.inl ⟨by rfl, fun W hS => by go_simp⟩) HS.out ?_
          simp only [List.setIfInBounds_toArray, List.set_cons_zero, List.set_cons_succ]
          refine P_takeW 7 41 (.int .i64 (j : Int)) #[true, true, true, true, true, true, true, true, false, false, false, false, false, false, false, false, false, false, false] rfl rfl (by kernel_rfl) (by kernel_rfl) (by kernel_rfl) (by kernel_rfl) (by decide) (fun _ _ _ h => h) (Or.inl ⟨by rfl, fun W hS => by go_simp⟩) HS.out ?_
          simp only [List.setIfInBounds_toArray, List.set_cons_zero, List.set_cons_succ]
          refine P_takeW 8 42 (.pointer (some (adr Ak j))) #[true, true, true, true, true, true, true, true, true, false, false, false, false, false, false, false, false, false, false] rfl rfl (by kernel_rfl) (by kernel_rfl) (by kernel_rfl) (by kernel_rfl) (by decide) (fun _ _ _ h => h) (Or.inl ⟨by rfl, fun W hS => by go_simp⟩) HS.out ?_
          simp only [List.setIfInBounds_toArray, List.set_cons_zero, List.set_cons_succ]
          refine P_take 9 43 (.int .i64 (sz b j : Int)) #[true, true, true, true, true, true, true, true, true, true, false, false, false, false, false, false, false, false, false] rfl rfl (by kernel_rfl) (by kernel_rfl) (by kernel_rfl) (by kernel_rfl) (by kernel_rfl) (by kernel_rfl) (by decide) (fun _ _ _ h => h) (Or.inl ⟨by rfl, fun W hS => by obtain ⟨⟨hS1, hS2⟩, hS3, hS4⟩ := hS; go_simp⟩) HS.out ?_
          simp only [List.setIfInBounds_toArray, List.set_cons_zero, List.set_cons_succ]
          refine P_takeT 10 44 (.agg (ints8 (LY b)).toArray) #[true, true, true, true, true, true, true, true, true, true, true, false, false, false, false, false, false, false, false] [12] rfl rfl (by kernel_rfl) (by kernel_rfl) (by kernel_rfl) (by kernel_rfl) (by kernel_rfl) (by kernel_rfl) (by kernel_rfl) (by decide) (fun _ _ _ h => h) (yieldsIf_load_mid rfl 51 (.tmp 5) rfl LB (0) rfl (ints8 (LY b)) _ (fun W hS => fun q v hv => hS.2.1.cell (by rw [Nat.zero_add]; exact hv)) Tryz.underlying51 rfl (by rw [info23]; rfl)) HS.out ?_
          simp only [List.setIfInBounds_toArray, List.set_cons_zero, List.set_cons_succ]
          refine P_takeW 11 45 (.int .i64 (j : Int)) #[true, true, true, true, true, true, true, true, true, true, true, true, false, false, false, false, false, false, false] rfl rfl (by kernel_rfl) (by kernel_rfl) (by kernel_rfl) (by kernel_rfl) (by decide) (fun _ _ _ h => h) (Or.inl ⟨by rfl, fun W hS => by go_simp⟩) HS.out ?_
          simp only [List.setIfInBounds_toArray, List.set_cons_zero, List.set_cons_succ]
          refine P_takeW 13 47 (.pointer (some ⟨CB, 3, none⟩)) #[true, true, true, true, true, true, true, true, true, true, true, true, false, true, false, false, false, false, false] rfl rfl (by kernel_rfl) (by kernel_rfl) (by kernel_rfl) (by kernel_rfl) (by decide) (fun _ _ _ h => h) (Or.inl ⟨by rfl, fun W hS => by go_simp⟩) HS.out ?_
          simp only [List.setIfInBounds_toArray, List.set_cons_zero, List.set_cons_succ]
          refine P_take 14 48 (.int .i64 lm) #[true, true, true, true, true, true, true, true, true, true, true, true, false, true, true, false, false, false, false] rfl rfl (by kernel_rfl) (by kernel_rfl) (by kernel_rfl) (by kernel_rfl) (by kernel_rfl) (by kernel_rfl) (by decide) (fun _ _ _ h => h) (Or.inl ⟨by rfl, fun W hS => by obtain ⟨⟨hS1, hS2⟩, hS3, hS4⟩ := hS; go_simp⟩) HS.out ?_
          simp only [List.setIfInBounds_toArray, List.set_cons_zero, List.set_cons_succ]
          refine P_oneSG 12 #[true, true, true, true, true, true, true, true, true, true, true, true, true, true, true, false, false, false, false] rfl (by kernel_rfl) (by kernel_rfl) (by rfl) (fun K hK => ?_)
          go_simp
          refine (rfil_any b j _).mono ?_
          rintro e wa ⟨rfl, hBa⟩
          have HSa : Hid ((wa.cell? (adr An j) = some (.int .i64 (u : Int)) ∧ wa.cell? (adr Ak j) = some (.int .i64 (sz b j : Int))) ∧ Blk wa LB 51 (ints8 (LY b)) ∧ wa.cell? ⟨CB, 3, none⟩ = some (.int .i64 lm)) := Lib.hid ⟨⟨cell_below (w := wr.drew) HS.out.1.1 hBa, cell_below (w := wr.drew) HS.out.1.2 hBa⟩, HS.out.2.1.below hBa, cell_below (w := wr.drew) HS.out.2.2 hBa⟩
          have HBa := Lib.hid (((Below.refl wr.heap.size wr).drew).trans hBa)
          clear hBa
          refine hK _ _ HSa.out ?_
          clear hK K
          refine P_oneG 15 #[true, true, true, true, true, true, true, true, true, true, true, true, true, true, true, true, false, false, false] rfl (by kernel_rfl) (by kernel_rfl) (by rfl) (by kernel_rfl) (fun K hK => ?_)
          go_simp
          refine (HBU.out wa).mono ?_
          rintro e wb ⟨Ab, cb, rfl, hRb, hBb⟩
          have HRb := Lib.hid hRb
          have HBb := Lib.hid (HBa.out.trans (hBb.mono HBa.out.size))
          clear hRb hBb
          refine hK _ _ ?_
          clear hK K
          refine P_oneG 16 #[true, true, true, true, true, true, true, true, true, true, true, true, true, true, true, true, true, false, false] rfl (by kernel_rfl) (by kernel_rfl) (by rfl) (by kernel_rfl) (fun K hK => ?_)
          go_simp
          refine (rus_any Ab _ cb _ wb HRb.out HSZ.out).mono ?_
          rintro e wc ⟨rfl, hQc⟩
          have HBc := Lib.hid (HBb.out.trans (hQc.below _))
          clear hQc
          rw [HU.out]
          refine hK _ _ ?_
          clear hK K
          refine P_oneG 17 #[true, true, true, true, true, true, true, true, true, true, true, true, true, true, true, true, true, true, false] rfl (by kernel_rfl) (by kernel_rfl) (by rfl) (by kernel_rfl) (fun K hK => ?_)
          go_simp
          refine hK _ _ ?_
          clear hK K
          refine P_one 18 #[true, true, true, true, true, true, true, true, true, true, true, true, true, true, true, true, true, true, true] rfl (by kernel_rfl) (by kernel_rfl) rfl (by kernel_rfl) (fun K hK => ?_)
          go_simp
          refine hK _ _ ?_
          clear hK K
          refine P_done (by kernel_rfl) ?_ _
          refine noPanic_normal ?_
          have HBX := Lib.hid (HBW.out.trans (HBc.out.mono HBW.out.size))
          have HBY := Lib.hid (HB.out.trans (HBc.out.mono HB.out.size))
          have HBD : Hid (¬ bad49 b lm C g m j) := Lib.hid (fun h => HU0.out (by rw [HUS.out]; exact h.1))
          go_wp2
          go_roundw
          case rel => exact ⟨j + 1, by omega, by go_num, lt_succ_cases HOK.out HBD.out, HBY.out⟩
          case measure => simp [intOf]; omega
      · have cN0 : wr.cell? (adr An j) = some (.int .i64 0) := by rw [cN, show u = 0 by omega]; rfl
        clear cN
        have HBD : Hid (¬ bad49 b lm C g m j) := Lib.hid (fun h => by have h9 := h.2; rw [← HUE.out] at h9; exact hu0 h9)
        clear hu0
        go_wp2_with fail
        go_quiet (fail)
        go_wp2
        go_roundw
        case rel => exact ⟨j + 1, by omega, by go_num, lt_succ_cases HOK.out HBD.out, HB.out.trans (Qt.below ⟨_, rfl⟩ _)⟩
        case measure => simp [intOf]; omega
    · obtain rfl : j = C := by omega
      go_wp2
      go_ret
      exact ⟨true, rfl, ⟨fun _ => HOK.out, fun _ => rfl⟩, HBW.out⟩
end Go.Proofs.YtcbbkflnenkpgaaGreat

namespace Go.Proofs.YtcbbkflnenkpgaaGreat
open Go.RowKit Go.Shelf
set_option linter.unusedVariables false
set_option maxRecDepth 100000 in
theorem uS0 : 0 < uS 6224 1000 0 := by decide +kernel
theorem uS1 : 0 < uS 6224 1000 1 := by decide +kernel
theorem kl16 (W : World) : Calls Tryz.prog 17 #[.int .i64 16] W fun e w' => e = .returned (.tuple #[.agg #[.int .i64 40, .int .i64 1, .int .i64 40, .int .i64 0, .int .i64 1, .int .i64 0, .int .i64 0], .int .i64 0]) ∧ Below W.heap.size W w' := by
  have h := lay_any 16 W
  rwa [show ly15 16 = ([40, 1, 40, 0, 1, 0, 0], 0) by decide +kernel] at h
theorem kl0 (W : World) : Calls Tryz.prog 17 #[.int .i64 0] W fun e w' => e = .returned (.tuple #[.agg #[.int .i64 0, .int .i64 0, .int .i64 0, .int .i64 0, .int .i64 0, .int .i64 0, .int .i64 0], .int .i64 2]) ∧ Below W.heap.size W w' := by
  have h := lay_any 0 W
  rwa [show ly15 0 = ([0, 0, 0, 0, 0, 0, 0], 2) by decide +kernel] at h
theorem ks22 (W : World) : Calls Tryz.prog 25 #[.agg #[.int .i64 6200, .int .i64 22, .int .i64 2, .int .i64 1, .int .i64 0]] W fun e w' => ∃ A c, e = .returned (.tuple #[.slice A 2 c, .int .i64 0]) ∧ Own .i64 3 w' W.heap.size A 2 c [10, 12] ∧ Below W.heap.size W w' :=
  shares_ok 6200 2 11 2 1 0 W (by decide) (by decide) (by decide) (by decide) (by decide) (by decide) (by decide)
theorem ks23 (W : World) : Calls Tryz.prog 25 #[.agg #[.int .i64 6200, .int .i64 23, .int .i64 2, .int .i64 1, .int .i64 0]] W fun e w' => e = .returned (.tuple #[.slice none 0 0, .int .i64 2]) ∧ Below W.heap.size W w' :=
  shares_bad 6200 23 2 1 0 W (by decide)
def K4 (W : World) (e : Ending) (w' : World) : Prop := ∃ A' c' s t, e = .returned (.tuple #[.slice A' 2 c', .int .i64 0]) ∧ BI w' W.heap.size A' c' [s, t] ∧ s.xs = [1, 2] ∧ t.xs = [3, 4] ∧ Below W.heap.size W w'
theorem ks4 (A : Option Addr) (c : Nat) (W : World) (h : Rd .i64 W A 4 c [1, 2, 3, 4]) : Calls Tryz.prog 26 #[.agg #[.int .i64 6200, .int .i64 4, .int .i64 2, .int .i64 1000, .int .i64 0], .slice A 4 c] W (K4 W) := by
  refine (tsplit_ok 6200 2 2 2 1000 0 A 4 c [1, 2, 3, 4] W (by decide) (by decide) (by decide) (by decide) (by decide) (by decide) (by decide) rfl h).mono ?_
  rintro e w' ⟨hB, ⟨⟨q, hq, hb⟩, rfl⟩ | ⟨hok, A', c', L, rfl, hBI, hxs⟩⟩
  · exfalso
    have h9 : uS 6224 1000 q = 0 := hb.1
    have h1 := uS0
    have h2 := uS1
    rcases (by omega : q = 0 ∨ q = 1) with rfl | rfl <;> omega
  · rw [show prtS [1, 2, 3, 4] 2 2 2 2 = [[1, 2], [3, 4]] by decide] at hxs
    have hl := congrArg List.length hxs
    simp only [List.length_map, List.length_cons, List.length_nil] at hl
    obtain ⟨s, t, rfl⟩ : ∃ s t, L = [s, t] := by match L, hl with | [s, t], _ => exact ⟨s, t, rfl⟩
    simp only [List.map_cons, List.map_nil, List.cons.injEq, and_true] at hxs
    exact ⟨A', c', s, t, rfl, hBI, hxs.1, hxs.2, hB⟩
theorem lit_rd (w : World) (xs : List Int) (n : Nat) (hn : n = xs.length) (hm : n ≤ maxLen) : Rd .i64 (w.alloc (.cells (xs.map (Value.int .i64)).toArray 3)) (some ⟨w.heap.size, 0, none⟩) n n xs := by
  have h := (Ownv.lit (base := 0) w (xs.map (Value.int .i64)).toArray 3 rfl (Nat.zero_le _) (by simpa using hn ▸ hm)).rd
  subst hn
  unfold Rd
  simpa using h
set_option maxRecDepth 100000 in
set_option maxHeartbeats 2000000 in
theorem known_any (w : World) : Calls Tryz.prog 13 #[] w fun e w' => e = .returned (.bool true) ∧ Below w.heap.size w w' := by
  go_enter Tryz.func13, Tryz.ntmps13
  go_wp2_with fail
  refine (kl16 _).mono ?_
  rintro e w1 ⟨rfl, hB1⟩
  have x1 : Blk (w1.alloc (.cells #[.int .i64 40, .int .i64 1, .int .i64 40, .int .i64 0, .int .i64 1, .int .i64 0, .int .i64 0] 51)) w1.heap.size 51 [.int .i64 40, .int .i64 1, .int .i64 40, .int .i64 0, .int .i64 1, .int .i64 0, .int .i64 0] := Blk.new w1 _ 51 rfl
  have hb1 := bal hB1 (.cells #[.int .i64 40, .int .i64 1, .int .i64 40, .int .i64 0, .int .i64 1, .int .i64 0, .int .i64 0] 51)
  go_wp2_with fail
  generalize w1.alloc (.cells #[.int .i64 40, .int .i64 1, .int .i64 40, .int .i64 0, .int .i64 1, .int .i64 0, .int .i64 0] 51) = W1 at *
  refine (kl0 _).mono ?_
  rintro e w2 ⟨rfl, hB2⟩
  have x2 := (x1.below hB2).alloc (.cells #[.int .i64 0, .int .i64 0, .int .i64 0, .int .i64 0, .int .i64 0, .int .i64 0, .int .i64 0] 51)
  have hb2 := bal (hb1.trans (hB2.mono hb1.size)) (.cells #[.int .i64 0, .int .i64 0, .int .i64 0, .int .i64 0, .int .i64 0, .int .i64 0, .int .i64 0] 51)
  clear hB1 hb1 x1 hB2
  go_wp2_with fail
  generalize w2.alloc (.cells #[.int .i64 0, .int .i64 0, .int .i64 0, .int .i64 0, .int .i64 0, .int .i64 0, .int .i64 0] 51) = W2 at *
  refine (ks22 _).mono ?_
  rintro e w3 ⟨A3, c3, rfl, hO3, hB3⟩
  have x3 := x2.below hB3
  have hb3 := hb2.trans (hB3.mono hb2.size)
  have R3 := Own.rd hO3
  clear x2 hb2 hB3 hO3
  go_wp2_with fail
  refine (ks23 _).mono ?_
  rintro e w4 ⟨rfl, hB4⟩
  have x4 := (x3.below hB4).alloc (.cells ([1, 2, 3, 4].map (Value.int .i64)).toArray 3)
  have hb4 := bal (hb3.trans (hB4.mono hb3.size)) (.cells ([1, 2, 3, 4].map (Value.int .i64)).toArray 3)
  have R4 := Rdv.alloc (Rdv.below R3 hB4) (.cells ([1, 2, 3, 4].map (Value.int .i64)).toArray 3)
  clear x3 hb3 R3 hB4
  go_wp2_with fail
  refine (ks4 _ 4 _ (lit_rd w4 [1, 2, 3, 4] 4 rfl (by unfold maxLen; omega))).mono ?_
  rintro e w5 ⟨A5, c5, s, t, rfl, hBI, hs, ht, hB5⟩
  have x5 := x4.below hB5
  have hb5 := hb4.trans (hB5.mono hb4.size)
  have R5 := Rdv.below R4 hB5
  have S5 := Own.rd (hBI.r s (by simp))
  have T5 := Own.rd (hBI.r t (by simp))
  rw [hs] at S5
  rw [ht] at T5
  have sn : s.n = 2 := by have := S5.len; exact this.symm
  have tn : t.n = 2 := by have := T5.len; exact this.symm
  have L5 := hBI.o.rd
  clear x4 hb4 R4 hB5 hBI hs ht
  have c1 := x5.cell (j := 1) (v := .int .i64 1) rfl
  have c2 := x5.cell (j := 2) (v := .int .i64 40) rfl
  have c6 := x5.cell (j := 6) (v := .int .i64 0) rfl
  go_wp2_with fail
  refine (same4_any A3 _ 2 c3 2 2 [10, 12] [10, 12] _ (Rdv.alloc R5 _) (lit_rd w5 [10, 12] 2 rfl (by unfold maxLen; omega))).mono ?_
  rintro e w6 ⟨rfl, hQ6⟩
  have h6 : Below w5.heap.size w5 w6 := ((Below.refl _ w5).alloc (Nat.le_refl _) _).trans ((hQ6.below _))
  have ca := (L5.below h6).at_ 0 s.v rfl
  have cb := (L5.below h6).at_ 1 t.v rfl
  have ix0 : ∀ W, (Instr.indexAt 63 (.slice A5 2 c5) (.int .i64 0)).run Tryz.prog W = .ok (.pointer (some (adr A5 0))) W := fun W => Rdv.ix L5 el41 (j := 0) (show 0 < 2 by decide) .i64 W
  have ix1 : ∀ W, (Instr.indexAt 63 (.slice A5 2 c5) (.int .i64 1)).run Tryz.prog W = .ok (.pointer (some (adr A5 1))) W := fun W => Rdv.ix L5 el41 (j := 1) (show 1 < 2 by decide) .i64 W
  have hsv : s.v = .slice s.A 2 s.c := by simp [Sv.v, sn]
  have htv : t.v = .slice t.A 2 t.c := by simp [Sv.v, tn]
  rw [hsv] at ca
  rw [htv] at cb
  rw [sn] at S5
  rw [tn] at T5
  have hb6 := hb5.trans (h6.mono hb5.size)
  have S6 := Rdv.below S5 h6
  have T6 := Rdv.below T5 h6
  clear c1 c2 c6 x5 hb5 R5 hsv htv sn tn S5 T5
  go_wp2_with fail
  refine (same4_any s.A _ 2 s.c 2 2 [1, 2] [1, 2] _ (Rdv.alloc S6 _) (lit_rd w6 [1, 2] 2 rfl (by unfold maxLen; omega))).mono ?_
  rintro e w7 ⟨rfl, hQ7⟩
  have h7 : Below w6.heap.size w6 w7 := ((Below.refl _ w6).alloc (Nat.le_refl _) _).trans ((hQ7.below _))
  have cb7 := cell_below cb h7
  have hb7 := hb6.trans (h7.mono hb6.size)
  have T7 := Rdv.below T6 h7
  clear ca cb S6 T6 h6 h7 hb6 hQ7 hQ6
  go_wp2_with fail
  refine (same4_any t.A _ 2 t.c 2 2 [3, 4] [3, 4] _ (Rdv.alloc T7 _) (lit_rd w7 [3, 4] 2 rfl (by unfold maxLen; omega))).mono ?_
  rintro e w8 ⟨rfl, hQ8⟩
  have hb8 := (bal hb7 _).trans (hQ8.below w.heap.size)
  have HB8 := Lib.hid hb8
  clear hb7 hb8 hQ8 cb7 T7 ix0 ix1
  go_wp2
  go_ret
  exact ⟨rfl, HB8.out⟩
end Go.Proofs.YtcbbkflnenkpgaaGreat

