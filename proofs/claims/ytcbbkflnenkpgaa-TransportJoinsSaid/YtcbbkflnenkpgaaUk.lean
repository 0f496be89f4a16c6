/-
  Contracts of slices.IndexFunc, slices.DeleteFunc and of the rate matcher's Usable. Condition: a block size from 40 to 6144, fewer filler bits, a limit of at least 1.
-/
import Derived.Test.YtcbbkflnenkpgaaUj
namespace Go.Proofs.Ytcbbkflnenkpgaa
open Go.RowKit
set_option linter.unusedVariables false
theorem cl86_any (x : Int) (w : World) : Calls Try.prog 86 #[.int .i64 x] w fun e w' => e = .returned (.bool (decide (x < 0))) ∧ w = w' := by
  have H87 : ∀ W, Calls Try.prog 87 #[.int .i64 x] W fun e w' => e = .returned (.bool (decide (0 ≤ x))) ∧ W = w' := by
    intro W
    go_enter Try.func87, Try.ntmps87
    go_wp2
    go_ret
    exact ⟨rfl, by trivial⟩
  have hd : (!decide (0 ≤ x)) = decide (x < 0) := by
    by_cases h : 0 ≤ x
    · rw [decide_eq_true h, decide_eq_false (by omega)]; rfl
    · rw [decide_eq_false h, decide_eq_true (by omega)]; rfl
  have HD := Lib.hid hd
  clear hd
  go_enter Try.func86, Try.ntmps86
  go_wp2_with fail
  refine (H87 _).mono ?_
  rintro e w' ⟨rfl, rfl⟩
  by_cases h : 0 ≤ x
  · have q : decide (0 ≤ x) = true := decide_eq_true h
    rw [q]
    go_wp2
    go_ret
    exact ⟨ret_bool (decide_eq_false (by omega)).symm, by trivial⟩
  · have q : decide (0 ≤ x) = false := decide_eq_false h
    rw [q]
    go_wp2
    go_ret
    exact ⟨ret_bool (decide_eq_true (by omega)).symm, by trivial⟩
def IxP (n : Nat) (xs : List Int) (r : Int) : Prop := (r = -1 ∧ ∀ j, j < n → 0 ≤ gi xs j) ∨ (∃ i : Nat, r = (i : Int) ∧ i < n ∧ gi xs i < 0 ∧ ∀ j, j < i → 0 ≤ gi xs j)
def IxI (w : World) (n : Nat) (xs : List Int) (i : Value) (wr : World) : Prop := ∃ j : Nat, j ≤ n ∧ i = .int .i64 j ∧ (∀ q, q < j → 0 ≤ gi xs q) ∧ w = wr
set_option maxRecDepth 100000 in
theorem ixf_any (A : Option Addr) (n c : Nat) (xs : List Int) (w : World) (hx : Rd .i64 w A n c xs) (hn : n ≤ 100000) : Calls Try.prog 103 #[.slice A n c, .func (.func 86) #[] #[]] w fun e w' => ∃ r : Int, e = .returned (.int .i64 r) ∧ IxP n xs r ∧ w = w' := by
  go_enter Try.func103, Try.ntmps103
  go_wp2
  go_loopw [8] (fun i wr => IxI w n xs i wr) (fun i _ => n - (intOf i).toNat)
  case atStart => exact ⟨0, Nat.zero_le _, rfl, fun q hq => by omega, rfl⟩
  case round =>
    obtain ⟨j, hj, rfl, hall, rfl⟩ := hrel
    have HALL := Lib.hid hall
    clear hall
    by_cases hlt : j < n
    · have hc := Rd.cell hx hlt
      have hix := fun W => Rdv.ix hx el34 hlt .i64 W
      have HP := Lib.hid (fun r => show IxP n xs r ↔ _ from Iff.rfl)
      obtain ⟨x, hxe⟩ : ∃ x, x = gi xs j := ⟨_, rfl⟩
      have HXE := Lib.hid hxe
      rw [← hxe] at hc
      clear hxe
      by_cases h0 : x < 0
      · have HC := Lib.hid (cl86_any x w)
        rw [decide_eq_true h0] at HC
        go_wp2_with (go_at_call 86; refine HC.out.mono ?_; rintro e w' ⟨rfl, rfl⟩)
        go_ret
        exact ⟨_, rfl, .inr ⟨j, rfl, hlt, by rw [← HXE.out]; exact h0, HALL.out⟩, by trivial⟩
      · have HC := Lib.hid (cl86_any x w)
        rw [decide_eq_false h0] at HC
        go_wp2_with (go_at_call 86; refine HC.out.mono ?_; rintro e w' ⟨rfl, rfl⟩)
        go_roundw
        case rel => exact ⟨j + 1, by omega, by go_num, fun q hq => lt_succ_cases HALL.out (by rw [← HXE.out]; omega) q hq, by trivial⟩
        case measure => simp [intOf]; omega
    · obtain rfl : j = n := by omega
      go_wp2
      go_ret
      exact ⟨_, rfl, .inl ⟨rfl, HALL.out⟩, by trivial⟩
theorem usC_all {xs : List Int} : ∀ n, n ≤ xs.length → (∀ j, j < n → 0 ≤ gi xs j) → usC (xs.take n) = n
  | 0, _, _ => rfl
  | n + 1, h, ha => by
    rw [List.take_succ_eq_append_getElem (by omega), usC_snoc, usC_all n (by omega) (fun j hj => ha j (by omega)), if_pos (by have := ha n (by omega); rwa [gi_eq _ _ (by omega)] at this)]
theorem usC_lt {xs : List Int} {i : Nat} (hi : i < xs.length) (h : gi xs i < 0) : usC xs < xs.length := by
  unfold usC
  rw [List.length_filter_lt_length_iff_exists]
  refine ⟨xs[i], List.getElem_mem hi, ?_⟩
  rw [← gi_eq _ _ hi]
  simp; omega
theorem usC_step {xs : List Int} {j : Nat} (hj : j < xs.length) : usC (xs.take (j + 1)) = usC (xs.take j) + if 0 ≤ gi xs j then 1 else 0 := by
  rw [List.take_succ_eq_append_getElem hj, usC_snoc, gi_eq _ _ hj]
def DeI (w : World) (base n c : Nat) (A : Option Addr) (xs : List Int) (u i : Value) (wr : World) : Prop := ∃ (j : Nat) (cur : List Int), j ≤ n ∧ i = .int .i64 j ∧ u = .int .i64 (usC (xs.take j)) ∧ Own .i64 3 wr base A n c cur ∧ (∀ q, j ≤ q → q < n → gi cur q = gi xs q) ∧ Below base w wr
set_option maxRecDepth 100000 in
set_option maxHeartbeats 1000000 in
theorem delf_any (A : Option Addr) (n c base : Nat) (xs : List Int) (w : World) (hx : Own .i64 3 w base A n c xs) (hn : n ≤ 100000) (hb : base ≤ w.heap.size) : Calls Try.prog 85 #[.slice A n c, .func (.func 86) #[] #[]] w fun e w' => ∃ A' c', e = .returned (.slice A' (usC xs) c') ∧ Below base w w' := by
  have hl := (Own.rd hx).len
  have HIX := Lib.hid (ixf_any A n c xs w (Own.rd hx) hn)
  obtain ⟨uu, huu⟩ : ∃ u, u = usC xs := ⟨_, rfl⟩
  rw [← huu]
  have HUU := Lib.hid huu
  clear huu
  have HX := Lib.hid hx
  clear hx
  go_enter Try.func85, Try.ntmps85
  go_wp2_with fail
  refine HIX.out.mono ?_
  rintro e w' ⟨r, rfl, hr, rfl⟩
  clear HIX
  rcases hr with ⟨rfl, hall⟩ | ⟨i0, rfl, hi0, hneg, hall⟩
  · have hu : usC xs = n := by have := usC_all n (by omega) hall; rwa [List.take_of_length_le (by omega)] at this
    go_wp2
    go_ret
    exact ⟨A, c, by rw [HUU.out, hu]; rfl, Below.refl _ _⟩
  · have hq0 : ((i0 : Int) == -1) = false := beq_f (by omega)
    have hu0 : usC (xs.take (i0 + 1)) = i0 := by rw [usC_step (by omega), usC_all i0 (by omega) hall, if_neg (by omega), Nat.add_zero]
    have HLT := Lib.hid (usC_lt (by omega : i0 < xs.length) hneg)
    clear hneg hall
    go_wp2
    go_loopw [5, 6] (fun u i wr => DeI w base n c A xs u i wr) (fun _ i _ => n - (intOf i).toNat)
    case atStart => exact ⟨i0 + 1, xs, by omega, by go_num, by rw [hu0], HX.out, fun q _ _ => rfl, Below.refl _ _⟩
    case round =>
      obtain ⟨j, cur, hj, rfl, rfl, hO, hsame, hB⟩ := hrel
      clear HX hu0
      have hO' := hO
      have HB := Lib.hid hB
      by_cases hlt : j < n
      · have hc := Rd.cell (Own.rd hO) hlt
        have hix := fun W => Rdv.ix (Own.rd hO) el34 hlt .i64 W
        rw [hsame j (Nat.le_refl _) hlt] at hc
        have HST := Lib.hid (usC_step (xs := xs) (j := j) (by omega))
        have hul : usC (xs.take j) ≤ j := by have := usC_le (xs.take j); rw [List.length_take] at this; omega
        have HSM := Lib.hid hsame
        obtain ⟨x, hxe⟩ : ∃ x, x = gi xs j := ⟨_, rfl⟩
        rw [← hxe] at hc HST
        clear hsame hxe
        generalize usC (xs.take j) = u at *
        by_cases h0 : x < 0
        · have HC := Lib.hid (cl86_any x wr)
          rw [decide_eq_true h0] at HC
          have HO := Lib.hid hO
          clear hO hO' hB
          go_wp2_with (go_at_call 86; refine HC.out.mono ?_; rintro e w' ⟨rfl, rfl⟩)
          go_roundw
          case rel => exact ⟨j + 1, cur, by omega, by go_num, by rw [HST.out, if_neg (by omega)]; rfl, HO.out, fun q h1 h2 => HSM.out q (by omega) h2, HB.out⟩
          case measure => simp [intOf]; omega
        · have HC := Lib.hid (cl86_any x wr)
          rw [decide_eq_false h0] at HC
          have huj : u < n := by omega
          have hcu := Rd.cell (Own.rd hO) huj
          have hfu := Ownv.frozen hO (by have := (Own.rd hO).le; omega) u
          have hiu := fun W => Rdv.ix (Own.rd hO) el34 huj .i64 W
          have HS := Lib.hid (Own.set_ hO huj x)
          have hbA := (Ownv.blk_ge hO (by have := (Own.rd hO).le; omega)).1
          have HB2 := Lib.hid (hB.grown (Own.set_ hO huj x).2 (Nat.le_trans hb hB.size) (fun k e => by cases e; exact hbA))
          have hcl := (Own.rd hO).len
          clear hO hO' hB
          go_wp2_with (go_at_call 86; refine HC.out.mono ?_; rintro e w' ⟨rfl, rfl⟩)
          go_roundw
          case rel => exact ⟨j + 1, cur.set u x, by omega, by go_num, by rw [HST.out, if_pos (by omega)]; go_num, HS.out.1, fun q h1 h2 => by rw [gi_set _ _ _ _ (by omega), if_neg (by omega)]; exact HSM.out q (by omega) h2, HB2.out⟩
          case measure => simp [intOf]; omega
      · obtain rfl : j = n := by omega
        rw [List.take_of_length_le (by omega)]
        have hlt' := HLT.out
        rw [hl, ← HUU.out] at hlt'
        rw [← HUU.out]
        have hcap := (Own.rd hO).le
        obtain ⟨b, o, rfl, -⟩ := Rdv.ptr (Own.rd hO) (by omega)
        have hsl0 := fun W => Rdv.sll (Own.rd hO) el34 .i64 (l := uu) (by omega) W
        rw [show cut (some ⟨b, o, none⟩) c uu = some ⟨b, o + uu, none⟩ from by unfold cut; rw [if_neg (by omega)]; exact congrArg some (add_lit b o uu)] at hsl0
        have hcl : ∀ ty, (Builtin.clear_ #[34] ty #[.slice (some ⟨b, o + uu, none⟩) (j - uu) (c - uu)]).run Try.prog wr = .ok (.tuple #[]) (wr.setCells b (o + uu) (List.replicate (j - uu) (.int .i64 0))) := fun ty =>
          Lib.run_clear_slice wr 34 3 ty (.int .i64 0) el34.u (fun W => by kernel_rfl) rfl rfl b (o + uu) (j - uu) (c - uu) (by omega)
            (fun q hq => by have := Rd.cell (Own.rd hO) (j := uu + q) (by omega); rw [adr_some] at this; rw [Nat.add_assoc, this]; rfl)
            (fun q hq => by have := Ownv.frozen hO (by omega) (uu + q); rw [adr_some] at this; rw [Nat.add_assoc]; exact this)
        have hsl1 := fun W => Rdv.slh (Own.rd hO) el34 .i64 (m := uu) (by omega) W
        have hbA := (Ownv.blk_ge hO (by omega)).1
        have HB9 := Lib.hid (hB.grown (grownBy_setCells b (List.replicate (j - uu) (.int .i64 0)) (o + uu) wr) (Nat.le_trans hb hB.size) (fun k e => by cases e; exact hbA))
        clear hO hO' hB hsame
        go_wp2
        go_ret
        exact ⟨_, _, rfl, HB9.out⟩
set_option maxRecDepth 100000 in
theorem usable_ok (k f : Nat) (lim : Int) (w : World) (h1 : 40 ≤ k) (h2 : k ≤ 6144) (hf : f < k) (hl : 1 ≤ lim) : Calls Try.prog 52 #[.int .i64 k, .int .i64 f, .int .i64 lim] w fun e w' => e = .returned (.tuple #[.int .i64 (usC ((bufL k f).take (szB k lim))), .int .i64 0]) ∧ Below w.heap.size w w' := by
  have HBU := Lib.hid (fun W => buffer_ok k f lim W h1 h2 hf hl)
  have hzb := szB_bd k hl
  have hN := nB_le h2
  generalize szB k lim = Z at *
  generalize nB k = N at *
  obtain ⟨u, hu⟩ : ∃ u, u = usC (List.take Z (bufL k f)) := ⟨_, rfl⟩
  rw [← hu]
  go_enter Try.func52, Try.ntmps52
  go_wp2_with fail
  refine (HBU.out _).mono ?_
  rintro e w1 ⟨A, c, rfl, hO, hB1⟩
  have HO := Lib.hid hO
  have HB1 := Lib.hid hB1
  clear hO hB1
  go_wp2_with fail
  refine (delf_any A Z c w.heap.size _ w1 HO.out (by omega) HB1.out.size).mono ?_
  rintro e w2 ⟨A', c', rfl, hB2⟩
  have HB2 := Lib.hid (HB1.out.trans hB2)
  clear hB2
  rw [← hu]
  clear hu
  go_wp2
  go_ret2
  exact ⟨rfl, HB2.out⟩
end Go.Proofs.Ytcbbkflnenkpgaa
