/-
  Contracts of (qpp.poly).at, qpp.coprime and qpp.divisors. Conditions: a block size.
-/
import Derived.Test.YtkagdiejpcfggaaB
namespace Go.Proofs.Ytkagdiejpcfggaa
open Go.RowKit
set_option linter.unusedVariables false
/-- A list of numbers as Go's ints. -/
def ints (D : List Nat) : List Int := D.map fun (d : Nat) => (d : Int)
theorem ints_len (D : List Nat) : (ints D).length = D.length := by simp [ints]
theorem gi_ints (D : List Nat) (j : Nat) (h : j < D.length) : gi (ints D) j = (D[j] : Int) := by
  rw [gi_eq _ _ (by rw [ints_len]; exact h)]; simp [ints]
def polyV (k f1 f2 : Nat) : Value := .agg #[.int .i64 k, .int .i64 f1, .int .i64 f2]
theorem mul_bd {a b A B : Nat} (ha : a ≤ A) (hb : b ≤ B) : a * b ≤ A * B := Nat.mul_le_mul ha hb
theorem at_any (k f1 f2 i : Nat) (hk0 : 0 < k) (hk : k ≤ 6144) (h1 : f1 ≤ 1000) (h2 : f2 ≤ 6144) (hi : i ≤ 6144) (w : World) :
    Calls Try.prog 65 #[polyV k f1 f2, .int .i64 i] w fun e w' => e = .returned (.int .i64 (((f1 * i + f2 * i % k * i) % k : Nat) : Int)) ∧ Below w.heap.size w w' := by
  have a1 := mul_bd h1 hi
  have a2 := mul_bd h2 hi
  have a3 : f2 * i % k < k := Nat.mod_lt _ hk0
  have a4 := mul_bd (show f2 * i % k ≤ 6144 by omega) hi
  obtain ⟨m1, h1'⟩ : ∃ m : Nat, m = f1 * i := ⟨_, rfl⟩
  obtain ⟨m2, h2'⟩ : ∃ m : Nat, m = f2 * i := ⟨_, rfl⟩
  obtain ⟨m3, h3'⟩ : ∃ m : Nat, m = m2 % k := ⟨_, rfl⟩
  obtain ⟨m4, h4'⟩ : ∃ m : Nat, m = m3 * i := ⟨_, rfl⟩
  obtain ⟨m6, h6'⟩ : ∃ m : Nat, m = (m1 + m4) % k := ⟨_, rfl⟩
  have e1 : (f1 : Int) * (i : Int) = (m1 : Int) := by rw [h1', Int.natCast_mul]
  have e2 : (f2 : Int) * (i : Int) = (m2 : Int) := by rw [h2', Int.natCast_mul]
  have e3 : (m2 : Int).tmod (k : Int) = (m3 : Int) := by rw [h3']; rfl
  have e4 : (m3 : Int) * (i : Int) = (m4 : Int) := by rw [h4', Int.natCast_mul]
  have e6 : ((m1 : Int) + (m4 : Int)).tmod (k : Int) = (m6 : Int) := by rw [h6', ← Int.natCast_add]; rfl
  have e3' : (m2 : Int) % (k : Int) = (m3 : Int) := by rw [h3']; rfl
  have e6' : ((m1 : Int) + (m4 : Int)) % (k : Int) = (m6 : Int) := by rw [h6', ← Int.natCast_add]; rfl
  rw [← h1', ← h2', ← h3', ← h4', ← h6']
  have b1 : m1 ≤ 6144000 := by omega
  have b2 : m2 ≤ 37748736 := by omega
  have b3 : m3 ≤ 6144 := by rw [h3']; have := Nat.mod_lt m2 hk0; omega
  have b4 : m4 ≤ 37748736 := by rw [h4']; have := mul_bd b3 hi; omega
  clear h1' h2' h3' h4' h6' a1 a2 a3 a4
  unfold polyV
  go_enter Try.func65, Try.ntmps65
  go_wp2
  go_quiet (fail)
  go_wp2
  go_ret
  exact ⟨rfl, ((Below.refl _ w).alloc (Nat.le_refl _) _).trans (Qt.below ⟨_, rfl⟩ _)⟩
def CopInv (f : Nat) (D : List Nat) (i : Value) : Prop := ∃ j : Nat, j ≤ D.length ∧ i = .int .i64 j ∧ ∀ q, (h : q < j) → (h2 : q < D.length) → f % D[q] ≠ 0
theorem coprime_any (f : Nat) (hf : f ≤ 100000) (A : Option Addr) (n c : Nat) (D : List Nat) (hD : ∀ q ∈ D, 1 ≤ q) (w : World) (h : Rd .i64 w A n c (ints D)) :
    Calls Try.prog 70 #[.int .i64 f, .slice A n c] w fun e w' => e = .returned (.bool (cop f D)) ∧ w = w' := by
  have hbd := h.bd.1
  have hl := h.len
  rw [ints_len] at hl
  have HL := Lib.hid hl
  go_enter Try.func70, Try.ntmps70
  go_wp2
  go_loop [9] (fun i => CopInv f D i) (fun i => n - (intOf i).toNat)
  case atStart => exact ⟨0, by omega, rfl, by intro q hq; omega⟩
  case round =>
    obtain ⟨j, hj, rfl, hv⟩ := hrel
    rw [hl] at hj
    clear hl
    by_cases hlt : j < n
    · have hix := fun W => Rdv.ix h el33 hlt .i64 W
      have hcell := Rd.cell h hlt
      have hj' : j < D.length := by rw [HL.out]; exact hlt
      rw [gi_ints _ _ hj'] at hcell
      have hp := hD _ (List.getElem_mem hj')
      have hr : (f : Int).tmod (D[j] : Int) = ((f % D[j] : Nat) : Int) := rfl
      have HV := Lib.hid hv
      clear hv hD
      generalize hd : D[j] = d at *
      by_cases h0 : f % d = 0
      · have hz : ((f % d : Nat) : Int) = 0 := by omega
        have hc : cop f D = false := by
          unfold cop; rw [Bool.eq_false_iff]; intro hc
          have := List.all_eq_true.1 hc d (by rw [← hd]; exact List.getElem_mem hj')
          simp [h0] at this
        rw [hz] at hr
        have HC := Lib.hid hc; clear hc
        go_wp2
        go_ret
        exact ⟨ret_bool HC.out.symm, rfl⟩
      · have hz : (((f % d : Nat) : Int) == 0) = false := beq_f (by omega)
        have H0 := Lib.hid h0
        clear h0
        go_wp2
        go_round
        case rel => exact ⟨j + 1, by omega, by go_num, fun q hq h2 => by
          by_cases e : q = j
          · subst e; rw [hd]; exact H0.out
          · exact HV.out q (by omega) h2⟩
        case measure => simp [intOf]; omega
    · have hc : cop f D = true := by
        unfold cop; rw [List.all_eq_true]; intro p hp
        obtain ⟨q, hq, rfl⟩ := List.getElem_of_mem hp
        have := hv q (by rw [HL.out] at hq; omega) hq
        simpa using this
      have HC := Lib.hid hc; clear hc hv
      go_wp2
      go_ret
      exact ⟨ret_bool HC.out.symm, rfl⟩
/-- The array that divisors fills, as far as it is filled. -/
def DivSt (w wr : World) (b : Nat) (acc : List Nat) : Prop := ∃ vs, Own .i64 122 wr w.heap.size (some ⟨b, 0, none⟩) 50 50 vs ∧ (∀ q, (h : q < acc.length) → gi vs q = (acc[q] : Int)) ∧ Below w.heap.size w wr
theorem DivSt.cell {w wr : World} {b : Nat} {acc : List Nat} (h : DivSt w wr b acc) (j : Nat) (hj : j < 50) : ∃ v, wr.cell? ⟨b, j, none⟩ = some (.int .i64 v) := by
  obtain ⟨vs, hO, _⟩ := h
  have := Rd.cell (Own.rd hO) hj
  rw [adr_some, Nat.zero_add] at this
  exact ⟨_, this⟩
theorem DivSt.frozen {w wr : World} {b : Nat} {acc : List Nat} (h : DivSt w wr b acc) (j : Nat) : wr.frozen? ⟨b, j, none⟩ = false := by
  obtain ⟨vs, hO, _⟩ := h
  have := Ownv.frozen hO (by omega) j
  rwa [adr_some, Nat.zero_add] at this
theorem DivSt.push {w wr : World} {b : Nat} {acc : List Nat} (h : DivSt w wr b acc) (hj : acc.length < 50) (p : Nat) : DivSt w (wr.setCell ⟨b, acc.length, none⟩ (.int .i64 p)) b (acc ++ [p]) := by
  obtain ⟨vs, hO, hv, hB⟩ := h
  have hs := Own.set_ hO hj (p : Int)
  rw [adr_some, Nat.zero_add] at hs
  have hl := (Own.rd hO).len
  refine ⟨_, hs.1, fun q hq => ?_, hB.grown hs.2 hB.size (fun k hk => by injection hk with hk; rw [← hk]; exact (Ownv.blk_ge hO (by omega)).1)⟩
  rw [List.length_append] at hq
  simp only [List.length_cons, List.length_nil] at hq
  rw [gi_eq _ _ (by rw [List.length_set]; omega), List.getElem_set]
  by_cases e : acc.length = q
  · subst e; rw [if_pos rfl, List.getElem_append_right (Nat.le_refl _)]; simp
  · rw [if_neg e, List.getElem_append_left (by omega), ← gi_eq vs q (by omega)]
    exact hv q (by omega)
theorem slice122 (b n : Nat) (hn : n ≤ 50) (W : World) : (Instr.sliceAt 122 (.pointer (some ⟨b, 0, none⟩)) none (some (.int .i64 (n : Int))) (some (.int .i64 (n : Int)))).run Try.prog W = .ok (.slice (some ⟨b, 0, none⟩) n n) W := by
  have h1 : Try.prog.arrayLen 122 = 50 := by kernel_rfl
  have h2 : ∀ W, (sizeOf (Try.prog.elem 122)).run Try.prog W = .ok 1 W := fun _ => by kernel_rfl
  rw [run_sliceAt_array_hm W 122 ⟨b, 0, none⟩ (by kernel_rfl) .i64 .i64 n n (by omega) (by omega) (by rw [h1]; omega), h2]
  have h3 : slicedAt ⟨b, 0, none⟩ 0 n n 1 = .slice (some ⟨b, 0, none⟩) n n := by
    unfold slicedAt
    rw [Nat.zero_mul, add_lit, Nat.add_zero, ite_self, Nat.sub_zero]
  rw [Result.andThen_ok, Int.toNat_natCast, h3]
def DivInv (w : World) (b : Nat) (D : List Nat) (k n p : Value) (wr : World) : Prop :=
  ∃ (kk q : Nat) (acc : List Nat), k = .int .i64 kk ∧ n = .int .i64 acc.length ∧ p = .int .i64 q ∧ 1 ≤ kk ∧ kk ≤ 6144 ∧ 2 ≤ q ∧ q ≤ 102 ∧ dvs (102 - q) q kk acc = some D ∧ DivSt w wr b acc
def StripInv (q K : Nat) (k : Value) : Prop := ∃ (f x : Nat), k = .int .i64 x ∧ 1 ≤ x ∧ x ≤ 6144 ∧ strip f q x = some K
theorem strip_bd : ∀ (f p k K : Nat), strip f p k = some K → 1 ≤ k → 2 ≤ p → 1 ≤ K ∧ K ≤ k
  | 0, _, _, _, h, _, _ => by cases h
  | f + 1, p, k, K, h, h1, h2 => by
    unfold strip at h
    split at h
    · next hk =>
      have hd : 1 ≤ k / p := by
        rcases Nat.eq_zero_or_pos (k / p) with e | e
        · have := Nat.div_add_mod k p; rw [e, hk] at this; omega
        · exact e
      have := strip_bd f p (k / p) K h hd h2
      have := Nat.div_le_self k p
      omega
    · cases h; omega
set_option maxHeartbeats 1000000 in
theorem divisors_any (k : Nat) (D : List Nat) (hk0 : 1 ≤ k) (hk : k ≤ 6144) (hD : dvs 100 2 k [] = some D) (hDl : D.length ≤ 12) (w : World) :
    Calls Try.prog 69 #[.int .i64 k] w fun e w' => e = .returned (.slice (some ⟨w.heap.size, 0, none⟩) D.length D.length) ∧ Rd .i64 w' (some ⟨w.heap.size, 0, none⟩) D.length D.length (ints D) ∧ Below w.heap.size w w' := by
  go_enter Try.func69, Try.ntmps69
  go_wp2
  go_loopw [0, 4, 5] (fun kv nv pv wr => DivInv w w.heap.size D kv nv pv wr) (fun _ _ pv _ => 102 - (intOf pv).toNat)
  case atStart => exact ⟨k, 2, [], rfl, rfl, rfl, hk0, hk, by omega, by omega, hD, ⟨List.replicate 50 0, Own.of_eq (Ownv.lit w _ 122 rfl (Nat.le_refl _) (by unfold maxLen; decide)) rfl rfl, (by intro q hq; cases hq), (Below.refl _ w).alloc (Nat.le_refl _) _⟩⟩
  case round =>
    obtain ⟨kk, q, acc, rfl, rfl, rfl, h1, h2, hq2, hq102, hd, hst⟩ := hrel
    clear hD hk0 hk
    by_cases hk1 : 1 < kk
    · obtain ⟨f', k2, hf, hs, hd'⟩ := dvs_step hd hk1
      obtain rfl : f' = 102 - (q + 1) := by omega
      have HS := Lib.hid hs
      have ht : (kk : Int).tmod (q : Int) = ((kk % q : Nat) : Int) := rfl
      have hm : (kk : Int) % (q : Int) = ((kk % q : Nat) : Int) := rfl
      have hfq : q < 102 := by omega
      clear hd hs hf
      by_cases h0 : kk % q = 0
      · rw [if_pos h0] at hd'
        rw [h0] at ht hm
        have hl := dvs_len _ _ _ _ _ hd'
        rw [List.length_append] at hl
        simp only [List.length_cons, List.length_nil] at hl
        have HD := Lib.hid hd'
        obtain ⟨cv, hcell⟩ := hst.cell acc.length (by omega)
        have hfz := hst.frozen acc.length
        have HST := Lib.hid (hst.push (by omega) q)
        have HLN : Hid ((acc ++ [q]).length = acc.length + 1) := Lib.hid (by simp)
        clear hd' h0 hst
        go_wp2
        go_loop [0] (fun x => StripInv q k2 x) (fun x => (intOf x).toNat)
        case atStart => exact ⟨14, kk, rfl, h1, h2, HS.out⟩
        case round =>
          obtain ⟨g, x, rfl, hx1, hx2, hxs⟩ := hrel
          have hxt : (x : Int).tmod (q : Int) = ((x % q : Nat) : Int) := rfl
          have hxm : (x : Int) % (q : Int) = ((x % q : Nat) : Int) := rfl
          have hxq : (x : Int).tdiv (q : Int) = ((x / q : Nat) : Int) := rfl
          have hxd : (x : Int) / (q : Int) = ((x / q : Nat) : Int) := rfl
          by_cases hx0 : x % q = 0
          · rw [hx0] at hxt hxm
            obtain ⟨g', rfl, hg⟩ := strip_step hxs hx0
            have hge : 1 ≤ x / q := by
              rcases Nat.eq_zero_or_pos (x / q) with e | e
              · have := Nat.div_add_mod x q; rw [e, hx0] at this; omega
              · exact e
            have hlt : x / q < x := Nat.div_lt_self hx1 hq2
            have HG := Lib.hid hg
            clear hxs hg hx0
            generalize x / q = y at *
            go_wp2
            go_round
            case rel => exact ⟨g', y, by go_num, hge, by omega, HG.out⟩
            case measure => simp [intOf]; omega
          · have hxe := strip_end hxs hx0
            subst hxe
            obtain ⟨m, hm', hmp⟩ : ∃ m : Nat, x % q = m ∧ m ≠ 0 := ⟨_, rfl, hx0⟩
            rw [hm'] at hxt hxm
            have hz : ((m : Int) == 0) = false := beq_f (by omega)
            clear hx0 hxs
            go_wp2
            go_roundw
            case rel => exact ⟨x, q + 1, _, rfl, by rw [HLN.out]; go_num, by go_num, hx1, hx2, by omega, by omega, HD.out, HST.out⟩
            case measure => simp [intOf]; omega
      · rw [if_neg h0] at hd'
        obtain ⟨m0, hm0, hmp0⟩ : ∃ m : Nat, kk % q = m ∧ m ≠ 0 := ⟨_, rfl, h0⟩
        rw [hm0] at ht hm
        have hz0 : ((m0 : Int) == 0) = false := beq_f (by omega)
        have HD := Lib.hid hd'
        have HST := Lib.hid hst
        clear hd' h0 hst hm0
        go_wp2
        go_loop [0] (fun x => StripInv q k2 x) (fun x => (intOf x).toNat)
        case atStart => exact ⟨14, kk, rfl, h1, h2, HS.out⟩
        case round =>
          obtain ⟨g, x, rfl, hx1, hx2, hxs⟩ := hrel
          have hxt : (x : Int).tmod (q : Int) = ((x % q : Nat) : Int) := rfl
          have hxm : (x : Int) % (q : Int) = ((x % q : Nat) : Int) := rfl
          have hxq : (x : Int).tdiv (q : Int) = ((x / q : Nat) : Int) := rfl
          have hxd : (x : Int) / (q : Int) = ((x / q : Nat) : Int) := rfl
          by_cases hx0 : x % q = 0
          · rw [hx0] at hxt hxm
            obtain ⟨g', rfl, hg⟩ := strip_step hxs hx0
            have hge : 1 ≤ x / q := by
              rcases Nat.eq_zero_or_pos (x / q) with e | e
              · have := Nat.div_add_mod x q; rw [e, hx0] at this; omega
              · exact e
            have hlt : x / q < x := Nat.div_lt_self hx1 hq2
            have HG := Lib.hid hg
            clear hxs hg hx0
            generalize x / q = y at *
            go_wp2
            go_round
            case rel => exact ⟨g', y, by go_num, hge, by omega, HG.out⟩
            case measure => simp [intOf]; omega
          · have hxe := strip_end hxs hx0
            subst hxe
            obtain ⟨m, hm', hmp⟩ : ∃ m : Nat, x % q = m ∧ m ≠ 0 := ⟨_, rfl, hx0⟩
            rw [hm'] at hxt hxm
            have hz : ((m : Int) == 0) = false := beq_f (by omega)
            clear hx0 hxs
            go_wp2
            go_roundw
            case rel => exact ⟨x, q + 1, _, rfl, by go_num, by go_num, hx1, hx2, by omega, by omega, HD.out, HST.out⟩
            case measure => simp [intOf]; omega
    · have he := dvs_end hd (by omega)
      subst he
      have hsl := slice122 w.heap.size acc.length (by omega)
      have hb : acc.length ≤ 50 := by omega
      have HST := Lib.hid hst
      clear hst hd
      go_wp2
      go_ret
      obtain ⟨vs, hO, hv, hB⟩ := HST.out
      refine ⟨rfl, ?_, hB⟩
      have hl := (Own.rd hO).len
      have hr := Rdv.upto (Ownv.rd (Ownv.upto hO (m := acc.length) hb)) (Nat.le_refl _)
      refine ⟨by simp [ints], Nat.le_refl _, by unfold maxLen; omega, nofun, (Own.rd hO).spot ∘ fun _ => by omega, (Own.rd hO).lt ∘ fun _ => by omega, fun q v hq => ?_⟩
      rw [List.getElem?_map] at hq
      cases hq2 : (ints acc)[q]? with
      | none => rw [hq2] at hq; cases hq
      | some x =>
        rw [hq2] at hq
        obtain rfl := Option.some.inj hq
        obtain ⟨hql, hqe⟩ := List.getElem?_eq_some_iff.1 hq2
        rw [ints_len] at hql
        have hc := Rd.cell (Own.rd hO) (show q < 50 by omega)
        rw [hc, hv q hql, ← hqe, ← gi_eq, gi_ints _ _ hql]
end Go.Proofs.Ytkagdiejpcfggaa
