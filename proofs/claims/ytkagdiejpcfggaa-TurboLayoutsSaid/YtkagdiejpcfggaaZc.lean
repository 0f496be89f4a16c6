/-
  Contracts of turbo.made at both its instances and of the functions that Steps hands to it. Condition: at most 6144 elements.
-/
import Derived.Test.YtkagdiejpcfggaaZb
namespace Go.Proofs.Ytkagdiejpcfggaa
open Go.RowKit
set_option linter.unusedVariables false
theorem id_any (i : Int) (w : World) : Calls Try.prog 37 #[.int .i64 i] w fun e w' => e = .returned (.int .i64 i) ∧ w = w' := by
  go_enter Try.func37, Try.ntmps37
  go_wp2
  go_ret
  exact ⟨rfl, rfl⟩
def rngL (k : Nat) : List Int := (List.range k).map fun i : Nat => (i : Int)
def RngInv (w : World) (k : Nat) (M : Option Addr) (i : Value) (wr : World) : Prop :=
  ∃ (j : Nat) (vs : List Int), j ≤ k ∧ i = .int .i64 j ∧ Own .i64 3 wr w.heap.size M k k vs ∧ (∀ q, q < j → gi vs q = (q : Int)) ∧ Below w.heap.size w wr
set_option maxRecDepth 100000 in
theorem made1_any (k : Nat) (w : World) (hk : k ≤ 6144) : Calls Try.prog 36 #[.int .i64 k, .func (.func 37) #[] #[]] w fun e w' => ∃ A, e = .returned (.slice A k k) ∧ Own .i64 3 w' w.heap.size A k k (rngL k) ∧ Below w.heap.size w w' := by
  go_enter Try.func36, Try.ntmps36
  go_wp2_with (at_make; refine list_of rfl fun K hK => wp_mk (n := k) _ _ 33 rfl el33 rfl rfl (by omega) (by unfold maxLen; omega) ?_; intro M wm hOm hBm hM; refine hK _ _ ?_; clear hK K)
  have hst : RngInv w k M (.int .i64 0) wm := ⟨0, List.replicate k 0, by omega, rfl, Own.of_eq hOm rfl (by simp), by intro q hq; omega, hBm⟩
  clear hOm hBm
  go_loopw [11] (fun i wr => RngInv w k M i wr) (fun i _ => k - (intOf i).toNat)
  case atStart => exact hst
  case round =>
    obtain ⟨j, vs, hj, rfl, hO, hq, hB⟩ := hrel
    clear hst
    by_cases hlt : j < k
    · have hix := fun W => Rdv.ix (Own.rd hO) el33 hlt .i64 W
      have hcell := Rd.cell (Own.rd hO) hlt
      have hfz := Ownv.frozen hO (by omega) j
      have HSET := Lib.hid (Own.set_ hO hlt (j : Int))
      have HQ := Lib.hid hq
      have HB := Lib.hid hB
      have HLV := Lib.hid (Own.rd hO).len
      have HGE := Lib.hid (Ownv.blk_ge hO (by omega)).1
      clear hq hB hO
      go_wp2_with (go_at_call 37; refine (id_any _ _).mono ?_; rintro e w4 ⟨rfl, rfl⟩)
      go_roundw
      case rel =>
        refine ⟨j + 1, _, by omega, by go_num, HSET.out.1, fun q hq => ?_, HB.out.grown HSET.out.2 HB.out.size (fun k hk => by have := Option.some.inj hk; have := HGE.out; omega)⟩
        rw [gi_set _ _ _ _ (by rw [HLV.out]; exact hlt)]
        by_cases e : j = q
        · subst e; rw [if_pos rfl]
        · rw [if_neg e]; exact HQ.out q (by omega)
      case measure => simp [intOf]; omega
    · obtain rfl : j = k := by omega
      have he : vs = rngL j := by
        have hl := (Own.rd hO).len
        refine ext_gi (by rw [hl]; simp [rngL]) fun q hq' => ?_
        rw [hq q (by omega), gi_eq (rngL j) q (by simp [rngL]; omega)]
        simp [rngL]
      subst he
      have HO := Lib.hid hO
      have HB := Lib.hid hB
      clear hq hB hO
      go_wp2
      go_ret
      exact ⟨M, rfl, HO.out, HB.out⟩
/-- what the closure over order, code and n finds -/
structure PairCtx (w : World) (b6 b3 b5 : Nat) (O : Option Addr) (k cO : Nat) (os : List Int) (code n : Nat) : Prop where
  c6 : w.cell? ⟨b6, 0, none⟩ = some (.slice O k cO)
  c3 : w.cell? ⟨b3, 0, none⟩ = some (.int .i64 (code : Int))
  c5 : w.cell? ⟨b5, 0, none⟩ = some (.int .i64 (n : Int))
  rd : Rd .i64 w O k cO os
theorem PairCtx.below {w w' : World} {b6 b3 b5 : Nat} {O : Option Addr} {k cO : Nat} {os : List Int} {code n : Nat} (h : PairCtx w b6 b3 b5 O k cO os code n) (hB : Below w.heap.size w w') : PairCtx w' b6 b3 b5 O k cO os code n :=
  ⟨(hB.cell (p := ⟨b6, 0, none⟩) (World.block_lt_of_cell? w _ h.c6)).trans h.c6, (hB.cell (p := ⟨b3, 0, none⟩) (World.block_lt_of_cell? w _ h.c3)).trans h.c3, (hB.cell (p := ⟨b5, 0, none⟩) (World.block_lt_of_cell? w _ h.c5)).trans h.c5, Rdv.below h.rd hB⟩
theorem pair_any (b6 b3 b5 : Nat) (O : Option Addr) (k cO : Nat) (os : List Int) (code n i : Nat) (w : World) (h : PairCtx w b6 b3 b5 O k cO os code n) (hi : i < k) (hk : k ≤ 6144) (hc : code ≤ 2) (hn : n ≤ 6148) :
    Calls Try.prog 40 #[.int .i64 i, .pointer (some ⟨b6, 0, none⟩), .pointer (some ⟨b3, 0, none⟩), .pointer (some ⟨b5, 0, none⟩)] w fun e w' => e = .returned (.agg #[.int .i64 (gi os i), .int .i64 ((code * n + i : Nat) : Int)]) ∧ Below w.heap.size w w' := by
  obtain ⟨d6, d3, d5, hr⟩ := h.below ((Below.refl w.heap.size w).alloc (Nat.le_refl _) (.cells #[.int .i64 0, .int .i64 0] 77))
  have hix := fun W => Rdv.ix hr el33 hi .i64 W
  have hcell := Rd.cell hr hi
  have hcn : code * n ≤ 12296 := Nat.le_trans (Nat.mul_le_mul hc hn) (by omega)
  obtain ⟨cn, hcn'⟩ : ∃ cn, code * n = cn := ⟨_, rfl⟩
  rw [hcn'] at hcn ⊢
  have em : (code : Int) * (n : Int) = (cn : Int) := by rw [← hcn', Int.natCast_mul]
  have ew : IntKind.i64.wrap ((code : Int) * (n : Int)) = (cn : Int) := by rw [em]; exact IntWalk.i64_in _ (by omega)
  have ew2 : IntKind.i64.wrap ((cn : Int) + (i : Int)) = (cn : Int) + (i : Int) := IntWalk.i64_in _ (by omega)
  have hi0 : (0 : Int) ≤ (i : Int) := by omega
  have hik : (i : Int) < (k : Int) := by omega
  clear hr hcn' h
  go_enter Try.func40, Try.ntmps40
  go_wp2
  go_region
  go_wp2
  have hrow : ((w.alloc (.cells #[.int .i64 (gi os i), .int .i64 ((cn : Int) + (i : Int))] 77)).drew).heap[w.heap.size]? = some (.cells #[.int .i64 (gi os i), .int .i64 ((cn : Int) + (i : Int))] 77 (0, 0)) := heap_alloc_new w _
  have hl := run_loadVar_row (P := Try.prog) _ w.heap.size 77 77 _ (0, 0) _ hrow Try.underlying77 rfl (by kernel_rfl)
  refine bodyPost_ret (v := .agg #[.int .i64 (gi os i), .int .i64 ((cn : Int) + (i : Int))]) ?_ rfl ⟨?_, ((Below.refl _ w).alloc (Nat.le_refl _) _).drew⟩
  · rw [results_c rfl]
    simp [asAddr, hl, Sem.run_pure]
  · rw [Int.natCast_add]
/-- pairs, cell by cell -/
def pairL (os : List Int) (cn : Nat) (j : Nat) : List Value := (List.range j).flatMap fun q => [.int .i64 (gi os q), .int .i64 ((cn + q : Nat) : Int)]
theorem pairL_succ (os : List Int) (cn j : Nat) : pairL os cn (j + 1) = pairL os cn j ++ [.int .i64 (gi os j), .int .i64 ((cn + j : Nat) : Int)] := by
  unfold pairL; rw [List.range_succ, List.flatMap_append]; simp
theorem pairL_len (os : List Int) (cn : Nat) : ∀ j, (pairL os cn j).length = 2 * j
  | 0 => rfl
  | j + 1 => by rw [pairL_succ, List.length_append, pairL_len os cn j]; simp; omega
set_option maxRecDepth 100000 in
theorem ix75 (g n c : Nat) {j : Nat} (hj : j < n) (kd : IntKind) (W : World) : (Instr.indexAt 75 (.slice (some ⟨g, 0, none⟩) n c) (.int kd (j : Int))).run Try.prog W = .ok (.pointer (some ⟨g, 2 * j, none⟩)) W := by
  have h1 : (0 : Int) ≤ (j : Int) ∧ (j : Int) < (n : Int) := by omega
  have hu : Try.prog.underlying 75 = some (.slice 77) := by kernel_rfl
  have hs : (sizeOf 77).run Try.prog W = .ok 2 W := by kernel_rfl
  simp only [Instr.indexAt, Sem.run_bind, run_underlying hu, Result.andThen_ok, asIntOf, Sem.run_pure, if_pos h1, hs, Int.toNat_natCast]
  congr 3
  rw [add_lit, Nat.zero_add, Nat.mul_comm]
theorem info77 : (Try.prog.info? 77).map (fun i => (i.zero, i.size, i.bytes)) = some (some (.agg #[.int .i64 0, .int .i64 0]), 2, 16) := by kernel_rfl
set_option maxRecDepth 100000 in
theorem made_zero (k : Nat) : (madeCells #[Value.int .i64 0, .int .i64 0] (k * 2)).toList = List.replicate (2 * k) (.int .i64 0) := by
  apply List.ext_getElem
  · simp [madeCells, Nat.mul_comm]
  · intro i h1 h2
    simp only [madeCells, Array.getElem_toList, Array.getElem_map, Array.getElem_range, List.getElem_replicate]
    have h3 : i % 2 = 0 ∨ i % 2 = 1 := by omega
    rcases h3 with h3 | h3 <;> simp [h3]
set_option maxRecDepth 100000 in
theorem wp_mk75 {o : Oper} {a : Act} {K : Act → World → Prop} {Q : Exit → Act → World → Prop} {w : World} (l r : Operand) (ho : o.op = .makeSlice 75 l r) {n : Nat} (hs : a.eval l = .int .i64 (n : Int)) (hx : a.eval r = .int .i64 (n : Int)) (hn : n ≤ 100000)
    (h : Ownv 77 (w.alloc (.cells (List.replicate (2 * n) (Value.int .i64 0)).toArray 77)) w.heap.size (some ⟨w.heap.size, 0, none⟩) (2 * n) (2 * n) (List.replicate (2 * n) (.int .i64 0)) → K (a.put o.dst (.slice (some ⟨w.heap.size, 0, none⟩) n n)) (w.alloc (.cells (List.replicate (2 * n) (Value.int .i64 0)).toArray 77))) : o.wp Try.prog a w K Q := by
  obtain ⟨i, hi, hz0, hz1, hz2⟩ := info_parts info77
  have hr := run_make (P := Try.prog) w 75 77 i _ (by kernel_rfl) hi hz0 .i64 .i64 n n (by omega) (Int.le_refl _) (by rw [hz2]; omega) (by omega)
  simp only [Int.toNat_natCast, hz1] at hr
  have e : madeCells (Value.agg #[.int .i64 0, .int .i64 0]).cells (n * 2) = (List.replicate (2 * n) (Value.int .i64 0)).toArray := by
    rw [← made_zero]; rfl
  rw [e] at hr
  unfold Oper.wp
  simp only [execOp, ho, Sem.run_bind, Sem.run_pure, Result.andThen_ok, hs, hx, hr]
  refine h ?_
  have := Ownv.lit w (List.replicate (2 * n) (Value.int .i64 0)).toArray 77 rfl (Nat.le_refl _) (by simp; unfold maxLen; omega)
  simpa using this
def PMadeInv (w : World) (b6 b3 b5 : Nat) (O : Option Addr) (k cO : Nat) (os : List Int) (code n : Nat) (i : Value) (wr : World) : Prop :=
  ∃ (j : Nat), j ≤ k ∧ i = .int .i64 j ∧ Ownv 77 wr w.heap.size (some ⟨w.heap.size, 0, none⟩) (2 * k) (2 * k) (pairL os (code * n) j ++ List.replicate (2 * (k - j)) (Value.int .i64 0)) ∧ Below w.heap.size w wr
theorem pair_put (os : List Int) (cn k j : Nat) (hj : j < k) (x y : Value) (hx : x = .int .i64 (gi os j)) (hy : y = .int .i64 ((cn + j : Nat) : Int)) :
    ((pairL os cn j ++ List.replicate (2 * (k - j)) (Value.int .i64 0)).set (2 * j) x).set (2 * j + 1) y = pairL os cn (j + 1) ++ List.replicate (2 * (k - (j + 1))) (Value.int .i64 0) := by
  have hl := pairL_len os cn j
  obtain ⟨m, hm⟩ : ∃ m, k - j = m + 1 := ⟨k - j - 1, by omega⟩
  rw [hm, show k - (j + 1) = m by omega, show 2 * (m + 1) = 2 * m + 1 + 1 by omega, List.replicate_succ, List.replicate_succ, pairL_succ, hx, hy]
  rw [List.set_append_right _ _ (by omega), List.set_append_right _ _ (by omega), hl, show 2 * j - 2 * j = 0 by omega, show 2 * j + 1 - 2 * j = 1 by omega]
  simp
set_option maxRecDepth 100000 in
set_option maxHeartbeats 600000 in
theorem made2_any (b6 b3 b5 : Nat) (O : Option Addr) (k cO : Nat) (os : List Int) (code n : Nat) (w : World) (h : PairCtx w b6 b3 b5 O k cO os code n) (hk : k ≤ 6144) (hk1 : 1 ≤ k) (hc : code ≤ 2) (hn : n ≤ 6148) :
    Calls Try.prog 39 #[.int .i64 k, .func (.func 40) #[] #[.pointer (some ⟨b6, 0, none⟩), .pointer (some ⟨b3, 0, none⟩), .pointer (some ⟨b5, 0, none⟩)]] w fun e w' =>
      e = .returned (.slice (some ⟨w.heap.size, 0, none⟩) k k) ∧ Ownv 77 w' w.heap.size (some ⟨w.heap.size, 0, none⟩) (2 * k) (2 * k) (pairL os (code * n) k) ∧ Below w.heap.size w w' := by
  have HC := Lib.hid h
  clear h
  go_enter Try.func39, Try.ntmps39
  go_wp2_with (at_make; refine list_of rfl fun K hK => wp_mk75 _ _ rfl (n := k) rfl rfl (by omega) ?_; intro hOm; refine hK _ _ ?_; clear hK K)
  have hst : PMadeInv w b6 b3 b5 O k cO os code n (.int .i64 0) (w.alloc (.cells (List.replicate (2 * k) (Value.int .i64 0)).toArray 77)) := ⟨0, by omega, rfl, by simpa [pairL] using hOm, (Below.refl _ w).alloc (Nat.le_refl _) _⟩
  clear hOm
  go_loopw [11] (fun i wr => PMadeInv w b6 b3 b5 O k cO os code n i wr) (fun i _ => k - (intOf i).toNat)
  case atStart => exact hst
  case round =>
    obtain ⟨j, hj, rfl, hO, hB⟩ := hrel
    clear hst
    by_cases hlt : j < k
    · have hp := fun W h => Lib.hid (pair_any b6 b3 b5 O k cO os code n j W h hlt hk hc hn)
      have hix := fun W => ix75 w.heap.size k k hlt .i64 W
      have HO := Lib.hid hO
      have HB := Lib.hid hB
      have hll : 2 * j < (pairL os (code * n) j ++ List.replicate (2 * (k - j)) (Value.int .i64 0)).length := by rw [List.length_append, pairL_len]; simp; omega
      have hll2 : 2 * j + 1 < (pairL os (code * n) j ++ List.replicate (2 * (k - j)) (Value.int .i64 0)).length := by rw [List.length_append, pairL_len]; simp; omega
      clear hO hB
      go_wp2_with (go_at_call 40; refine (hp _ (HC.out.below HB.out)).out.mono ?_; rintro e w4 ⟨rfl, hB4⟩; have hO4 := HO.out.below hB4; have d0 := hO4.rd.at_ (2 * j) _ (List.getElem?_eq_getElem hll); have d1 := hO4.rd.at_ (2 * j + 1) _ (List.getElem?_eq_getElem hll2); have f0 := Ownv.frozen hO4 (by omega) (2 * j); have f1 := Ownv.frozen hO4 (by omega) (2 * j + 1); simp only [adr_some, Nat.zero_add] at d0 d1 f0 f1; have HO4 := Lib.hid hO4; have HB4 := Lib.hid hB4; clear hO4 hB4)
      have s1 := Ownv.set_ HO4.out (j := 2 * j) (by omega) (.int .i64 (gi os j))
      have s2 := Ownv.set_ s1.1 (j := 2 * j + 1) (by omega) (.int .i64 ((code : Int) * (n : Int) + (j : Int)))
      simp only [adr_some, Nat.zero_add] at s1 s2
      have b1 := (HB.out.trans (HB4.out.mono HB.out.size)).grown s1.2 (HB.out.trans (HB4.out.mono HB.out.size)).size (fun k hk => by have := Option.some.inj hk; simp [blk] at this; omega)
      have b2 := b1.grown s2.2 b1.size (fun k hk => by have := Option.some.inj hk; simp [blk] at this; omega)
      refine ⟨⟨j + 1, by omega, by go_num, ?_, b2⟩, by simp [intOf]; omega⟩
      rw [← pair_put os (code * n) k j hlt _ _ rfl rfl]
      have e5 : ((code * n + j : Nat) : Int) = (code : Int) * (n : Int) + (j : Int) := by rw [Int.natCast_add, Int.natCast_mul]
      rw [e5]
      exact s2.1
    · obtain rfl : j = k := by omega
      rw [Nat.sub_self, Nat.mul_zero, List.replicate_zero, List.append_nil] at hO
      have HO := Lib.hid hO
      have HB := Lib.hid hB
      clear hO hB
      go_wp2
      go_ret
      exact ⟨rfl, HO.out, HB.out⟩
end Go.Proofs.Ytkagdiejpcfggaa
