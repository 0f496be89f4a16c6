/-
  Contract of the statements' Pattern.bits, and the refusals of the specification's Split. Condition: none.
-/
import Derived.Test.YtcbbkflnenkpgaaSw
namespace Go.Proofs.Ytcbbkflnenkpgaa
open Go.RowKit CM
set_option linter.unusedVariables false
theorem byt_set {xs : List Int} {j : Nat} {v : Int} (h : Byt xs) (hv : 0 ≤ v ∧ v < 256) : Byt (xs.set j v) := fun x hx => by
  rcases List.mem_or_eq_of_mem_set hx with hx | rfl
  · exact h x hx
  · exact hv
theorem byt_zeros (n : Nat) : Byt (List.replicate n 0) := fun x hx => by rw [List.mem_replicate] at hx; rw [hx.2]; decide
def PbInv (w : World) (cs : List Value) (n : Nat) (A : Option Addr) (x i : Value) (wr : World) : Prop := ∃ (j : Nat) (v : Int) (xs : List Int), j ≤ n ∧ i = .int .i64 j ∧ x = .int .u32 v ∧ Own .u8 5 wr w.heap.size A n n xs ∧ Byt xs ∧ Below w.heap.size w wr ∧ Blk wr w.heap.size 52 cs
def PbPost (w : World) (e : Ending) (w' : World) : Prop := ∃ (n : Nat) (A : Option Addr) (xs : List Int), n ≤ 30000 ∧ e = .returned (.slice A n n) ∧ Own .u8 5 w' w.heap.size A n n xs ∧ Byt xs ∧ Below w.heap.size w w'
theorem pat_len (l : Int) : ∃ n : Nat, n ≤ 30000 ∧ (n : Int) = max 0 (min 30000 l) := ⟨(max 0 (min 30000 l)).toNat, by omega, by omega⟩
set_option maxRecDepth 100000 in
set_option maxHeartbeats 1000000 in
theorem bits_any (l s a y : Int) (w : World) (hy : 0 ≤ y ∧ y < 256) : Calls Try.prog 33 #[.agg #[.int .i64 l, .int .i64 s, .int .i64 a, .int .u8 y]] w (PbPost w) := by
  have HY := Lib.hid hy
  clear hy
  have hK0 := Blk.new w [.int .i64 l, .int .i64 s, .int .i64 a, .int .u8 y] 52 rfl
  have HB0 := Lib.hid (show Below w.heap.size w (w.alloc (.cells [.int .i64 l, .int .i64 s, .int .i64 a, .int .u8 y].toArray 52)) from (Below.refl _ _).alloc (Nat.le_refl _) _)
  have HK0 := Lib.hid hK0
  clear hK0
  obtain ⟨n, hn, he⟩ : ∃ n : Nat, n ≤ 30000 ∧ ((l ≤ 0 ∧ n = 0) ∨ (0 < l ∧ l < 30000 ∧ l = n) ∨ (30000 ≤ l ∧ n = 30000)) := by
    by_cases h1 : l ≤ 0
    · exact ⟨0, by omega, .inl ⟨h1, rfl⟩⟩
    · by_cases h2 : l < 30000
      · exact ⟨l.toNat, by omega, .inr (.inl ⟨by omega, h2, by omega⟩)⟩
      · exact ⟨30000, by omega, .inr (.inr ⟨by omega, rfl⟩)⟩
  rcases he with ⟨h1, rfl⟩ | ⟨h0, h1, hl⟩ | ⟨h1, rfl⟩
  case inl =>
    go_enter Try.func33, Try.ntmps33
    go_wp2_with (at_make; refine list_of rfl fun K hK => wp_mk (n := 0) (kl := .i64) (kr := .i64) _ _ 53 rfl el53 rfl rfl (by omega) (by unfold maxLen; omega) ?_; intro A w2 hO hB2 hA; have HO := Lib.hid hO; have HB2 := Lib.hid (HB0.out.trans (hB2.mono HB0.out.size)); have HK2 := Lib.hid (HK0.out.below hB2); have k1 := HK2.out.cell (j := 1) rfl; clear hO hB2; refine hK _ _ ?_; clear hK K)
    have hN3 : 0 ≤ 30000 := by omega
    go_loopw [4, 5] (fun x i wr => PbInv w [.int .i64 l, .int .i64 s, .int .i64 a, .int .u8 y] 0 A x i wr) (fun _ i _ => 0 - (intOf i).toNat)
    case atStart => exact ⟨0, _, List.replicate 0 0, by omega, rfl, rfl, Own.of_eq (Ownv.mono HO.out (by simp)) rfl (by rw [List.map_replicate]), byt_zeros _, HB2.out, HK2.out⟩
    case round =>
      obtain ⟨j, v, xs, hj, rfl, rfl, hO3, hby, hB3, hK3⟩ := hrel
      have HO3 := Lib.hid hO3
      have HBY := Lib.hid hby
      have HB3 := Lib.hid hB3
      have HK3 := Lib.hid hK3
      clear hO3 hby hB3 hK3
      by_cases hlt : j < 0
      ·
        exact absurd hlt (by omega)
      · have a2 := HK3.out.cell (j := 2) rfl
        have a3 := HK3.out.cell (j := 3) rfl
        by_cases ha : 0 ≤ a ∧ a < 0
        · exact absurd ha (by omega)
        · rcases (by omega : a < 0 ∨ (0 : Int) ≤ a) with ha2 | ha2
          all_goals
            clear ha
            go_wp2
            go_ret
            exact ⟨0, A, xs, hN3, rfl, HO3.out, HBY.out, HB3.out⟩
  case inr.inl =>
    have HL := Lib.hid hl
    have HN := Lib.hid hn
    clear hl hn
    go_enter Try.func33, Try.ntmps33
    go_wp2_with (at_make; refine list_of rfl fun K hK => wp_mk (n := n) (kl := .i64) (kr := .i64) _ _ 53 rfl el53 (by rw [← HL.out]; rfl) (by rw [← HL.out]; rfl) (by have := HN.out; omega) (by have := HN.out; unfold maxLen; omega) ?_; intro A w2 hO hB2 hA; have HO := Lib.hid hO; have HB2 := Lib.hid (HB0.out.trans (hB2.mono HB0.out.size)); have HK2 := Lib.hid (HK0.out.below hB2); have k1 := HK2.out.cell (j := 1) rfl; clear hO hB2; refine hK _ _ ?_; clear hK K)
    have hn := HN.out
    clear HN h0 h1 HL
    have hN3 : n ≤ 30000 := by omega
    go_loopw [4, 5] (fun x i wr => PbInv w [.int .i64 l, .int .i64 s, .int .i64 a, .int .u8 y] n A x i wr) (fun _ i _ => n - (intOf i).toNat)
    case atStart => exact ⟨0, _, List.replicate n 0, by omega, rfl, rfl, Own.of_eq (Ownv.mono HO.out (by simp)) rfl (by rw [List.map_replicate]), byt_zeros _, HB2.out, HK2.out⟩
    case round =>
      obtain ⟨j, v, xs, hj, rfl, rfl, hO3, hby, hB3, hK3⟩ := hrel
      have HO3 := Lib.hid hO3
      have HBY := Lib.hid hby
      have HB3 := Lib.hid hB3
      have HK3 := Lib.hid hK3
      clear hO3 hby hB3 hK3
      by_cases hlt : j < n
      ·
        have hix := fun W => Rdv.ix (Own.rd HO3.out) el53 hlt .i64 W
        have hcell := Rd.cell (Own.rd HO3.out) hlt
        have hfz := Ownv.frozen HO3.out (by omega) j
        have HSET := Lib.hid (fun v => Own.set_ HO3.out hlt v)
        have HNE := Lib.hid (blk_ne_row HK3.out HO3.out (by decide))
        have HCE := Lib.hid (Ownv.blk_ge HO3.out (by omega))
        go_wp2
        go_roundw
        case rel => exact ⟨j + 1, _, _, by omega, by go_num, rfl, (HSET.out _).1, byt_set HBY.out (by omega), HB3.out.grown (HSET.out _).2 HB3.out.size (fun k hk => by injection hk with hk; rw [← hk]; exact HCE.out.1), HK3.out.grown (HSET.out _).2 (fun he => own_ne_blk HK3.out HO3.out (by decide) (own_some HO3.out hlt) (Option.some.inj he).symm)⟩
        case measure => simp [intOf]; omega
      · have a2 := HK3.out.cell (j := 2) rfl
        have a3 := HK3.out.cell (j := 3) rfl
        by_cases ha : 0 ≤ a ∧ a < n
        · obtain ⟨q, rfl⟩ : ∃ q : Nat, a = q := ⟨a.toNat, by omega⟩
          have hq : q < n := by omega
          have hix := fun W => Rdv.ix (Own.rd HO3.out) el53 hq .i64 W
          have hcell := Rd.cell (Own.rd HO3.out) hq
          have hfz := Ownv.frozen HO3.out (by omega) q
          have HSET := Lib.hid (Own.set_ HO3.out hq y)
          have HCE := Lib.hid (Ownv.blk_ge HO3.out (by omega))
          clear ha
          go_wp2
          go_ret
          exact ⟨n, A, _, hN3, rfl, HSET.out.1, byt_set HBY.out HY.out, HB3.out.grown HSET.out.2 HB3.out.size (fun k hk => by injection hk with hk; rw [← hk]; exact HCE.out.1)⟩
        · rcases (by omega : a < 0 ∨ (n : Int) ≤ a) with ha2 | ha2
          all_goals
            clear ha
            go_wp2
            go_ret
            exact ⟨n, A, xs, hN3, rfl, HO3.out, HBY.out, HB3.out⟩
  case inr.inr =>
    go_enter Try.func33, Try.ntmps33
    go_wp2_with (at_make; refine list_of rfl fun K hK => wp_mk (n := 30000) (kl := .i64) (kr := .i64) _ _ 53 rfl el53 rfl rfl (by omega) (by unfold maxLen; omega) ?_; intro A w2 hO hB2 hA; have HO := Lib.hid hO; have HB2 := Lib.hid (HB0.out.trans (hB2.mono HB0.out.size)); have HK2 := Lib.hid (HK0.out.below hB2); have k1 := HK2.out.cell (j := 1) rfl; clear hO hB2; refine hK _ _ ?_; clear hK K)
    obtain ⟨N, hN⟩ : ∃ N : Nat, N = 30000 := ⟨_, rfl⟩
    rw [← hN] at HO ⊢
    have hN3 : N ≤ 30000 := by omega
    clear hN h1
    go_loopw [4, 5] (fun x i wr => PbInv w [.int .i64 l, .int .i64 s, .int .i64 a, .int .u8 y] N A x i wr) (fun _ i _ => N - (intOf i).toNat)
    case atStart => exact ⟨0, _, List.replicate N 0, by omega, rfl, rfl, Own.of_eq (Ownv.mono HO.out (by simp)) rfl (by rw [List.map_replicate]), byt_zeros _, HB2.out, HK2.out⟩
    case round =>
      obtain ⟨j, v, xs, hj, rfl, rfl, hO3, hby, hB3, hK3⟩ := hrel
      have HO3 := Lib.hid hO3
      have HBY := Lib.hid hby
      have HB3 := Lib.hid hB3
      have HK3 := Lib.hid hK3
      clear hO3 hby hB3 hK3
      by_cases hlt : j < N
      ·
        have hix := fun W => Rdv.ix (Own.rd HO3.out) el53 hlt .i64 W
        have hcell := Rd.cell (Own.rd HO3.out) hlt
        have hfz := Ownv.frozen HO3.out (by omega) j
        have HSET := Lib.hid (fun v => Own.set_ HO3.out hlt v)
        have HNE := Lib.hid (blk_ne_row HK3.out HO3.out (by decide))
        have HCE := Lib.hid (Ownv.blk_ge HO3.out (by omega))
        go_wp2
        go_roundw
        case rel => exact ⟨j + 1, _, _, by omega, by go_num, rfl, (HSET.out _).1, byt_set HBY.out (by omega), HB3.out.grown (HSET.out _).2 HB3.out.size (fun k hk => by injection hk with hk; rw [← hk]; exact HCE.out.1), HK3.out.grown (HSET.out _).2 (fun he => own_ne_blk HK3.out HO3.out (by decide) (own_some HO3.out hlt) (Option.some.inj he).symm)⟩
        case measure => simp [intOf]; omega
      · have a2 := HK3.out.cell (j := 2) rfl
        have a3 := HK3.out.cell (j := 3) rfl
        by_cases ha : 0 ≤ a ∧ a < N
        · obtain ⟨q, rfl⟩ : ∃ q : Nat, a = q := ⟨a.toNat, by omega⟩
          have hq : q < N := by omega
          have hix := fun W => Rdv.ix (Own.rd HO3.out) el53 hq .i64 W
          have hcell := Rd.cell (Own.rd HO3.out) hq
          have hfz := Ownv.frozen HO3.out (by omega) q
          have HSET := Lib.hid (Own.set_ HO3.out hq y)
          have HCE := Lib.hid (Ownv.blk_ge HO3.out (by omega))
          clear ha
          go_wp2
          go_ret
          exact ⟨N, A, _, hN3, rfl, HSET.out.1, byt_set HBY.out HY.out, HB3.out.grown HSET.out.2 HB3.out.size (fun k hk => by injection hk with hk; rw [← hk]; exact HCE.out.1)⟩
        · rcases (by omega : a < 0 ∨ (N : Int) ≤ a) with ha2 | ha2
          all_goals
            clear ha
            go_wp2
            go_ret
            exact ⟨N, A, xs, hN3, rfl, HO3.out, HBY.out, HB3.out⟩
end Go.Proofs.Ytcbbkflnenkpgaa
