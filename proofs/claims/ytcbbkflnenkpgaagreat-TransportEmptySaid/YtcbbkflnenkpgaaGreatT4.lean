import Derived.Test.YtcbbkflnenkpgaaGreatT3
namespace Go.Proofs.YtcbbkflnenkpgaaGreat
open Go.RowKit
set_option linter.unusedVariables false
def xor8 (a b : Int) : Int := bits .xor .u8 a b
def xorStep (g m : List Int) (i q : Nat) : List Int := m.set (i + q) (xor8 (gi m (i + q)) (gi g q))
def innerTo (g m : List Int) (i : Nat) : Nat → List Int
  | 0 => m
  | q + 1 => xorStep g (innerTo g m i q) i q
def outStep (g m : List Int) (i : Nat) : List Int := if gi m i = 1 then innerTo g m i g.length else m
def outTo (g m : List Int) : Nat → List Int
  | 0 => m
  | i + 1 => outStep g (outTo g m i) i
theorem len_innerTo (g m : List Int) (i q : Nat) : (innerTo g m i q).length = m.length := by
  induction q with
  | zero => rfl
  | succ q ih => simp only [innerTo, xorStep, List.length_set, ih]
theorem len_outTo (g m : List Int) (i : Nat) : (outTo g m i).length = m.length := by
  induction i with
  | zero => rfl
  | succ i ih =>
    unfold outTo outStep
    split
    · rw [len_innerTo, ih]
    · exact ih
def refSum (g xs : List Int) : List Int := (outTo g (xs ++ List.replicate (g.length - 1) 0) xs.length).drop xs.length

def OutInv (w1 : World) (g m0 : List Int) (n M : Nat) (Am : Option Addr) (cm : Nat) (i : Value) (wr : World) : Prop :=
  ∃ j : Nat, j ≤ n ∧ i = .int .i64 j ∧ Own .u8 5 wr w1.heap.size Am M cm (outTo g m0 j) ∧ Below w1.heap.size w1 wr
def InInv (w1 : World) (g m1 : List Int) (i N M : Nat) (Am : Option Addr) (cm : Nat) (k : Value) (wr : World) : Prop :=
  ∃ j : Nat, j ≤ N ∧ k = .int .i64 j ∧ Own .u8 5 wr w1.heap.size Am M cm (innerTo g m1 i j) ∧ Below w1.heap.size w1 wr
set_option maxHeartbeats 800000 in
set_option maxRecDepth 100000 in
theorem rcompute_ok (k : Int) (A : Option Addr) (n c : Nat) (xs : List Int) (w : World) (hx : Rd .u8 w A n c xs) (hn : n ≤ 100000) (hk : polyN k ≠ 0) (hv : ValidB xs = true) :
    Calls Tryz.prog 56 #[.int .i64 k, .slice A n c] w fun e w' => ∃ A' c', e = .returned (.tuple #[.slice A' (polyN k - 1) c', .int .i64 0]) ∧ Rd .u8 w' A' (polyN k - 1) c' (refSum (polyL k) xs) ∧ Below w.heap.size w w' := by
  have hN := polyN_cases k
  have h1 := Lib.hid (poly_any k w)
  have hgl : (polyL k).length = polyN k := by simp [polyL]
  have HGL := Lib.hid hgl; clear hgl
  generalize polyN k = N at *
  generalize polyL k = g at *
  have hN9 : 9 ≤ N ∧ N ≤ 25 := by omega
  clear hN hk
  have hb0 : ((N : Int) == 0) = false := beq_f (by omega)
  go_enter Tryz.func56, Tryz.ntmps56
  go_wp2_with fail
  refine h1.out.mono ?_
  rintro e w1 ⟨Ag, cg, rfl, hOg, hB1⟩
  have hx1 := Rdv.below hx hB1
  have hg1 := hOg.rd
  go_wp2_with (first
    | (go_at_call 99; refine (valid_any A n c xs w1 hx1).mono ?_; rintro e w' ⟨rfl, rfl⟩)
    | (at_builtin; refine list_of rfl fun K hK => wp_app0 _ _ 25 rfl el53 rfl rfl hx1 (oneCell_ints .u8 xs) (by omega) ?_; intro A1 c1 w2 hO1 hg2; refine hK _ _ ?_; clear hK K)
    | (at_builtin; refine list_of rfl fun K hK => wp_appz _ _ 25 3 rfl el53 (kn := .i64) (by kernel_rfl) rfl (N - 1) rfl rfl (by omega) hO1 (by omega) (by omega) hg2.size ?_; intro Am cm w3 hO2 hg3; refine hK _ _ ?_; clear hK K))
  generalize hm0 : xs ++ List.replicate (N - 1) 0 = m0 at *
  have hO3 : Own .u8 5 w3 w1.heap.size Am (n + (N - 1)) cm m0 := Own.of_eq hO2 rfl (by rw [← hm0]; simp)
  have hB3 : Below w1.heap.size w1 w3 := hg2.grown hg3 hg2.size (fun k hk => Ownv.ob' hO1 hk)
  have HM0 := Lib.hid hm0; clear hm0 hO2 hg3 hg2 hO1
  go_loopw [8] (fun i wr => OutInv w1 g m0 n (n + (N - 1)) Am cm i wr) (fun i _ => n - (intOf i).toNat)
  case atStart => exact ⟨0, by omega, rfl, hO3, hB3⟩
  case round =>
    obtain ⟨i, hi, rfl, hO, hB⟩ := hrel
    by_cases hlt : i < n
    · have hix := fun W => Rdv.ix (Own.rd hO) el53 (show i < n + (N - 1) by omega) .i64 W
      have hcell := Rd.cell (Own.rd hO) (show i < n + (N - 1) by omega)
      have HS : Hid (outTo g m0 (i + 1) = outStep g (outTo g m0 i) i) := rfl
      generalize outTo g m0 i = m1 at *
      by_cases h1 : gi m1 i = 1
      · have h1' := beq_t h1
        have H1 := Lib.hid h1; clear h1
        go_wp2
        go_loopw [9] (fun k wr => InInv w1 g m1 i N (n + (N - 1)) Am cm k wr) (fun k _ => N - (intOf k).toNat)
        case atStart => exact ⟨0, by omega, rfl, hO, hB⟩
        case round =>
          obtain ⟨q, hq, rfl, hOq, hBq⟩ := hrel
          by_cases hlq : q < N
          · have hix2 := fun W => Rdv.ixI (Own.rd hOq) el53 (show i + q < n + (N - 1) by omega) .i64 ((i : Int) + (q : Int)) (by omega) W
            have hcell2 := Rd.cell (Own.rd hOq) (show i + q < n + (N - 1) by omega)
            have hgq := Rdv.below hg1 hBq
            have hix3 := fun W => Rdv.ix hgq el53 hlq .i64 W
            have hcell3 := Rd.cell hgq hlq
            have hw : IntKind.i64.wrap ((i : Int) + (q : Int)) = (i : Int) + (q : Int) := IntWalk.i64_in _ (by omega)
            have hfz := Ownv.frozen hOq (show 0 < cm by have := Rdv.le (Own.rd hOq); omega) (i + q)
            have hset := Own.set_ hOq (show i + q < n + (N - 1) by omega) (xor8 (gi (innerTo g m1 i q) (i + q)) (gi g q))
            have HSET := Lib.hid hset; clear hset
            go_wp2
            go_still_tail 16, (by kernel_rfl)
            simp only [World.drew_eq]
            go_wp2
            go_roundw
            case rel => exact ⟨q + 1, by omega, by go_num, Ownv.drew HSET.out.1, (hBq.grown HSET.out.2 hBq.size (fun k hk => by injection hk with hk; rw [← hk]; exact (Ownv.blk_ge hOq (by have := Rdv.le (Own.rd hOq); omega)).1)).drew⟩
            case measure => simp [intOf]; omega
          · obtain rfl : q = N := by omega
            go_wp2
            go_roundw
            case rel => exact ⟨i + 1, by omega, by go_num, by rw [HS.out, outStep, if_pos H1.out, HGL.out]; exact hOq, hBq⟩
            case measure => simp [intOf]; omega
      · have h1' := beq_f h1
        have H1 := Lib.hid h1; clear h1
        go_wp2
        go_roundw
        case rel => exact ⟨i + 1, by omega, by go_num, by rw [HS.out, outStep, if_neg H1.out]; exact hO, hB⟩
        case measure => simp [intOf]; omega
    · obtain rfl : i = n := by omega
      have hsl := fun W => Rdv.sll (Own.rd hO) el53 .i64 (show i ≤ i + (N - 1) by omega) W
      go_wp2
      go_ret2
      have hr := Rd.cut_ (Own.rd hO) (l := i) (m := i + (N - 1)) (by omega) (Nat.le_refl _)
      have hl := Rd.len (Own.rd hO)
      have hxl := hx.len
      rw [show i + (N - 1) - i = N - 1 by omega, List.take_of_length_le (by omega)] at hr
      refine ⟨cut Am cm i, cm - i, rfl, ?_, hB1.trans (hB.mono hB1.size)⟩
      unfold refSum
      rw [hxl, HGL.out, HM0.out]
      exact hr

def refErr (k : Int) (xs : List Int) : Int := if polyN k = 0 then 2 else if ValidB xs = true then 0 else 3
def refRes (k : Int) (xs : List Int) : List Int := if polyN k = 0 then [] else if ValidB xs = true then refSum (polyL k) xs else []
theorem refSum_len {g xs : List Int} (hg : 1 ≤ g.length) : (refSum g xs).length = g.length - 1 := by
  simp only [refSum, List.length_drop, len_outTo, List.length_append, List.length_replicate]; omega
theorem polyL_len (k : Int) : (polyL k).length = polyN k := by simp [polyL]
set_option maxHeartbeats 400000 in
theorem rcompute_any (k : Int) (A : Option Addr) (n c : Nat) (xs : List Int) (w : World) (hx : Rd .u8 w A n c xs) (hn : n ≤ 100000) :
    Calls Tryz.prog 56 #[.int .i64 k, .slice A n c] w fun e w' => ∃ A' n' c', e = .returned (.tuple #[.slice A' n' c', .int .i64 (refErr k xs)]) ∧ Rd .u8 w' A' n' c' (refRes k xs) ∧ Below w.heap.size w w' := by
  have hN := polyN_cases k
  by_cases h0 : polyN k = 0
  · have h1 := Lib.hid (poly_any k w)
    have e1 : refErr k xs = 2 := by rw [refErr, if_pos h0]
    have e2 : refRes k xs = [] := by rw [refRes, if_pos h0]
    rw [e1, e2]
    rw [h0] at h1
    clear e1 e2 h0 hN
    go_enter Tryz.func56, Tryz.ntmps56
    go_wp2_with fail
    refine h1.out.mono ?_
    rintro e w1 ⟨Ag, cg, rfl, hOg, hB1⟩
    go_wp2
    go_ret2
    exact ⟨none, 0, 0, rfl, Rd.nilv _ _, hB1⟩
  · by_cases hv : ValidB xs = true
    · have e1 : refErr k xs = 0 := by rw [refErr, if_neg h0, if_pos hv]
      have e2 : refRes k xs = refSum (polyL k) xs := by rw [refRes, if_neg h0, if_pos hv]
      rw [e1, e2]
      exact (rcompute_ok k A n c xs w hx hn h0 hv).mono fun e w' ⟨A', c', h⟩ => ⟨A', _, c', h⟩
    · have h1 := Lib.hid (poly_any k w)
      have e1 : refErr k xs = 3 := by rw [refErr, if_neg h0, if_neg hv]
      have e2 : refRes k xs = [] := by rw [refRes, if_neg h0, if_neg hv]
      have hv' : ValidB xs = false := by simpa using hv
      rw [e1, e2]
      clear e1 e2 hv
      generalize polyN k = N at *
      have hb0 : ((N : Int) == 0) = false := beq_f (by omega)
      go_enter Tryz.func56, Tryz.ntmps56
      go_wp2_with fail
      refine h1.out.mono ?_
      rintro e w1 ⟨Ag, cg, rfl, hOg, hB1⟩
      have hx1 := Rdv.below hx hB1
      go_wp2_with (go_at_call 99; refine (valid_any A n c xs w1 hx1).mono ?_; rintro e w' ⟨rfl, rfl⟩)
      go_ret2
      exact ⟨none, 0, 0, rfl, Rd.nilv _ _, hB1⟩
end Go.Proofs.YtcbbkflnenkpgaaGreat
