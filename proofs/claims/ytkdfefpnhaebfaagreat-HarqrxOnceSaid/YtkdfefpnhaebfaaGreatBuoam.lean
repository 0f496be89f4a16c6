/- Bundle. Conditions: none. -/
import Derived.Test.YtkdfefpnhaebfaaGreatBuoal
import Derived.Laws.ResultCell
import Derived.ScopeJumps
import Derived.WalkMore
import Derived.OwnWalk
set_option linter.unusedVariables false
set_option linter.unusedSimpArgs false
namespace Go.Proofs.YtkdfefpnhaebfaaGreat.Tu
open Go.RowKit
set_option maxHeartbeats 1000000
def ints (D : List Nat) : List Int := D.map fun (d : Nat) => (d : Int)
theorem ints_len (D : List Nat) : (ints D).length = D.length := by simp [ints]
theorem gi_ints (D : List Nat) (j : Nat) (h : j < D.length) : gi (ints D) j = (D[j] : Int) := by
 rw [gi_eq _ _ (by rw [ints_len]; exact h)]; simp [ints]
def polyV (k f1 f2 : Nat) : Value := .agg #[.int .i64 k, .int .i64 f1, .int .i64 f2]
theorem mul_bd {a b A B : Nat} (ha : a ≤ A) (hb : b ≤ B) : a * b ≤ A * B := Nat.mul_le_mul ha hb
theorem at_any (k f1 f2 i : Nat) (hk0 : 0 < k) (hk : k ≤ 6144) (h1 : f1 ≤ 1000) (h2 : f2 ≤ 6144) (hi : i ≤ 6144) (w : World) :
 Calls Tryz.prog 209 #[polyV k f1 f2, .int .i64 i] w fun e w' => e = .returned (.int .i64 (((f1 * i + f2 * i % k * i) % k : Nat) : Int)) ∧ Below w.heap.size w w' := by
 have a1 := mul_bd h1 hi
 have a2 := mul_bd h2 hi
 have a3 : f2 * i % k < k := Nat.mod_lt _ hk0
 have a4 := mul_bd (show f2 * i % k ≤ 6144 by omega) hi
 obtain ⟨m1, h1'⟩ : ∃ m : Nat, m = f1 * i := ⟨_, rfl⟩
 obtain ⟨m2, h2'⟩ : ∃ m : Nat, m = f2 * i := ⟨_, rfl⟩
 obtain ⟨m3, h3'⟩ : ∃ m : Nat, m = m2 % k := ⟨_, rfl⟩
 obtain ⟨m4, h4'⟩ : ∃ m : Nat, m = m3 * i := ⟨_, rfl⟩
 obtain ⟨m6, h6'⟩ : ∃ m : Nat, m = (m1 + m4) % k := ⟨_, rfl⟩
 have e1 : (f1 : Int) * (i : Int) = (m1 : Int) := by rw [h1', Int.natCast_mul]
 have e2 : (f2 : Int) * (i : Int) = (m2 : Int) := by rw [h2', Int.natCast_mul]
 have e3 : (m2 : Int).tmod (k : Int) = (m3 : Int) := by rw [h3']; rfl
 have e4 : (m3 : Int) * (i : Int) = (m4 : Int) := by rw [h4', Int.natCast_mul]
 have e6 : ((m1 : Int) + (m4 : Int)).tmod (k : Int) = (m6 : Int) := by rw [h6', ← Int.natCast_add]; rfl
 have e3' : (m2 : Int) % (k : Int) = (m3 : Int) := by rw [h3']; rfl
 have e6' : ((m1 : Int) + (m4 : Int)) % (k : Int) = (m6 : Int) := by rw [h6', ← Int.natCast_add]; rfl
 rw [← h1', ← h2', ← h3', ← h4', ← h6']
 have b1 : m1 ≤ 6144000 := by omega
 have b2 : m2 ≤ 37748736 := by omega
 have b3 : m3 ≤ 6144 := by rw [h3']; have := Nat.mod_lt m2 hk0; omega
 have b4 : m4 ≤ 37748736 := by rw [h4']; have := mul_bd b3 hi; omega
 clear h1' h2' h3' h4' h6' a1 a2 a3 a4
 unfold polyV
 go_enter Tryz.func209, Tryz.ntmps209
 go_wp2
 go_quiet (fail)
 go_wp2
 go_ret
 exact ⟨rfl, ((Below.refl _ w).alloc (Nat.le_refl _) _).trans (Qt.below ⟨_, rfl⟩ _)⟩
def CopInv (f : Nat) (D : List Nat) (i : Value) : Prop := ∃ j : Nat, j ≤ D.length ∧ i = .int .i64 j ∧ ∀ q, (h : q < j) → (h2 : q < D.length) → f % D[q] ≠ 0
theorem coprime_any (f : Nat) (hf : f ≤ 100000) (A : Option Addr) (n c : Nat) (D : List Nat) (hD : ∀ q ∈ D, 1 ≤ q) (w : World) (h : Rd .i64 w A n c (ints D)) :
 Calls Tryz.prog 236 #[.int .i64 f, .slice A n c] w fun e w' => e = .returned (.bool (cop f D)) ∧ w = w' := by
 have hbd := h.bd.1
 have hl := h.len
 rw [ints_len] at hl
 have HL := Lib.hid hl
 go_enter Tryz.func236, Tryz.ntmps236
 go_wp2
 go_loop [9] (fun i => CopInv f D i) (fun i => n - (intOf i).toNat)
 case atStart => exact ⟨0, by omega, rfl, by intro q hq; omega⟩
 case round =>
  obtain ⟨j, hj, rfl, hv⟩ := hrel
  rw [hl] at hj
  clear hl
  by_cases hlt : j < n
  · have hix := fun W => Rdv.ix h el33 hlt .i64 W
    have hcell := Rd.cell h hlt
    have hj' : j < D.length := by rw [HL.out]; exact hlt
    rw [gi_ints _ _ hj'] at hcell
    have hp := hD _ (List.getElem_mem hj')
    have hr : (f : Int).tmod (D[j] : Int) = ((f % D[j] : Nat) : Int) := rfl
    have HV := Lib.hid hv
    clear hv hD
    generalize hd : D[j] = d at *
    by_cases h0 : f % d = 0
    · have hz : ((f % d : Nat) : Int) = 0 := by omega
      have hc : cop f D = false := by
       unfold cop; rw [Bool.eq_false_iff]; intro hc
       have := List.all_eq_true.1 hc d (by rw [← hd]; exact List.getElem_mem hj')
       simp [h0] at this
      rw [hz] at hr
      have HC := Lib.hid hc; clear hc
      go_wp2
      go_ret
      exact ⟨ret_bool HC.out.symm, rfl⟩
    · have hz : (((f % d : Nat) : Int) == 0) = false := beq_f (by omega)
      have H0 := Lib.hid h0
      clear h0
      go_wp2
      go_round
      case rel => exact ⟨j + 1, by omega, by go_num, fun q hq h2 => by
       by_cases e : q = j
       · subst e; rw [hd]; exact H0.out
       · exact HV.out q (by omega) h2⟩
      case measure => simp [intOf]; omega
  · have hc : cop f D = true := by
     unfold cop; rw [List.all_eq_true]; intro p hp
     obtain ⟨q, hq, rfl⟩ := List.getElem_of_mem hp
     have := hv q (by rw [HL.out] at hq; omega) hq
     simpa using this
    have HC := Lib.hid hc; clear hc hv
    go_wp2
    go_ret
    exact ⟨ret_bool HC.out.symm, rfl⟩
def DivSt (w wr : World) (b : Nat) (acc : List Nat) : Prop := ∃ vs, Own .i64 314 wr w.heap.size (some ⟨b, 0, none⟩) 50 50 vs ∧ (∀ q, (h : q < acc.length) → gi vs q = (acc[q] : Int)) ∧ Below w.heap.size w wr
theorem DivSt.cell {w wr : World} {b : Nat} {acc : List Nat} (h : DivSt w wr b acc) (j : Nat) (hj : j < 50) : ∃ v, wr.cell? ⟨b, j, none⟩ = some (.int .i64 v) := by
 obtain ⟨vs, hO, _⟩ := h
 have := Rd.cell (Own.rd hO) hj
 rw [adr_some, Nat.zero_add] at this
 exact ⟨_, this⟩
theorem DivSt.frozen {w wr : World} {b : Nat} {acc : List Nat} (h : DivSt w wr b acc) (j : Nat) : wr.frozen? ⟨b, j, none⟩ = false := by
 obtain ⟨vs, hO, _⟩ := h
 have := Ownv.frozen hO (by omega) j
 rwa [adr_some, Nat.zero_add] at this
theorem DivSt.push {w wr : World} {b : Nat} {acc : List Nat} (h : DivSt w wr b acc) (hj : acc.length < 50) (p : Nat) : DivSt w (wr.setCell ⟨b, acc.length, none⟩ (.int .i64 p)) b (acc ++ [p]) := by
 obtain ⟨vs, hO, hv, hB⟩ := h
 have hs := Own.set_ hO hj (p : Int)
 rw [adr_some, Nat.zero_add] at hs
 have hl := (Own.rd hO).len
 refine ⟨_, hs.1, fun q hq => ?_, hB.grown hs.2 hB.size (fun k hk => by injection hk with hk; rw [← hk]; exact (Ownv.blk_ge hO (by omega)).1)⟩
 rw [List.length_append] at hq
 simp only [List.length_cons, List.length_nil] at hq
 rw [gi_eq _ _ (by rw [List.length_set]; omega), List.getElem_set]
 by_cases e : acc.length = q
 · subst e; rw [if_pos rfl, List.getElem_append_right (Nat.le_refl _)]; simp
 · rw [if_neg e, List.getElem_append_left (by omega), ← gi_eq vs q (by omega)]
   exact hv q (by omega)
theorem slice122 (b n : Nat) (hn : n ≤ 50) (W : World) : (Instr.sliceAt 314 (.pointer (some ⟨b, 0, none⟩)) none (some (.int .i64 (n : Int))) (some (.int .i64 (n : Int)))).run Tryz.prog W = .ok (.slice (some ⟨b, 0, none⟩) n n) W := by
 have h1 : Tryz.prog.arrayLen 314 = 50 := by kernel_rfl
 have h2 : ∀ W, (sizeOf (Tryz.prog.elem 314)).run Tryz.prog W = .ok 1 W := fun _ => by kernel_rfl
 rw [run_sliceAt_array_hm W 314 ⟨b, 0, none⟩ (by kernel_rfl) .i64 .i64 n n (by omega) (by omega) (by rw [h1]; omega), h2]
 have h3 : slicedAt ⟨b, 0, none⟩ 0 n n 1 = .slice (some ⟨b, 0, none⟩) n n := by
  unfold slicedAt
  rw [Nat.zero_mul, add_lit, Nat.add_zero, ite_self, Nat.sub_zero]
 rw [Result.andThen_ok, Int.toNat_natCast, h3]
def DivInv (w : World) (b : Nat) (D : List Nat) (k n p : Value) (wr : World) : Prop :=
 ∃ (kk q : Nat) (acc : List Nat), k = .int .i64 kk ∧ n = .int .i64 acc.length ∧ p = .int .i64 q ∧ 1 ≤ kk ∧ kk ≤ 6144 ∧ 2 ≤ q ∧ q ≤ 102 ∧ dvs (102 - q) q kk acc = some D ∧ DivSt w wr b acc
def StripInv (q K : Nat) (k : Value) : Prop := ∃ (f x : Nat), k = .int .i64 x ∧ 1 ≤ x ∧ x ≤ 6144 ∧ strip f q x = some K
theorem divisors_any (k : Nat) (D : List Nat) (hk0 : 1 ≤ k) (hk : k ≤ 6144) (hD : dvs 100 2 k [] = some D) (hDl : D.length ≤ 12) (w : World) :
 Calls Tryz.prog 235 #[.int .i64 k] w fun e w' => e = .returned (.slice (some ⟨w.heap.size, 0, none⟩) D.length D.length) ∧ Rd .i64 w' (some ⟨w.heap.size, 0, none⟩) D.length D.length (ints D) ∧ Below w.heap.size w w' := by
 go_enter Tryz.func235, Tryz.ntmps235
 go_wp2
 go_loopw [0, 4, 5] (fun kv nv pv wr => DivInv w w.heap.size D kv nv pv wr) (fun _ _ pv _ => 102 - (intOf pv).toNat)
 case atStart => exact ⟨k, 2, [], rfl, rfl, rfl, hk0, hk, by omega, by omega, hD, ⟨List.replicate 50 0, Own.of_eq (Ownv.lit w _ 314 rfl (Nat.le_refl _) (by unfold maxLen; decide)) rfl rfl, (by intro q hq; cases hq), (Below.refl _ w).alloc (Nat.le_refl _) _⟩⟩
 case round =>
  obtain ⟨kk, q, acc, rfl, rfl, rfl, h1, h2, hq2, hq102, hd, hst⟩ := hrel
  clear hD hk0 hk
  by_cases hk1 : 1 < kk
  · obtain ⟨f', k2, hf, hs, hd'⟩ := dvs_step hd hk1
    obtain rfl : f' = 102 - (q + 1) := by omega
    have HS := Lib.hid hs
    have ht : (kk : Int).tmod (q : Int) = ((kk % q : Nat) : Int) := rfl
    have hm : (kk : Int) % (q : Int) = ((kk % q : Nat) : Int) := rfl
    have hfq : q < 102 := by omega
    clear hd hs hf
    by_cases h0 : kk % q = 0
    · rw [if_pos h0] at hd'
      rw [h0] at ht hm
      have hl := dvs_len _ _ _ _ _ hd'
      rw [List.length_append] at hl
      simp only [List.length_cons, List.length_nil] at hl
      have HD := Lib.hid hd'
      obtain ⟨cv, hcell⟩ := hst.cell acc.length (by omega)
      have hfz := hst.frozen acc.length
      have HST := Lib.hid (hst.push (by omega) q)
      have HLN : Hid ((acc ++ [q]).length = acc.length + 1) := Lib.hid (by simp)
      clear hd' h0 hst
      go_wp2
      go_loop [0] (fun x => StripInv q k2 x) (fun x => (intOf x).toNat)
      case atStart => exact ⟨14, kk, rfl, h1, h2, HS.out⟩
      case round =>
       obtain ⟨g, x, rfl, hx1, hx2, hxs⟩ := hrel
       have hxt : (x : Int).tmod (q : Int) = ((x % q : Nat) : Int) := rfl
       have hxm : (x : Int) % (q : Int) = ((x % q : Nat) : Int) := rfl
       have hxq : (x : Int).tdiv (q : Int) = ((x / q : Nat) : Int) := rfl
       have hxd : (x : Int) / (q : Int) = ((x / q : Nat) : Int) := rfl
       by_cases hx0 : x % q = 0
       · rw [hx0] at hxt hxm
         obtain ⟨g', rfl, hg⟩ := strip_step hxs hx0
         have hge : 1 ≤ x / q := by
          rcases Nat.eq_zero_or_pos (x / q) with e | e
          · have := Nat.div_add_mod x q; rw [e, hx0] at this; omega
          · exact e
         have hlt : x / q < x := Nat.div_lt_self hx1 hq2
         have HG := Lib.hid hg
         clear hxs hg hx0
         generalize x / q = y at *
         go_wp2
         go_round
         case rel => exact ⟨g', y, by go_num, hge, by omega, HG.out⟩
         case measure => simp [intOf]; omega
       · have hxe := strip_end hxs hx0
         subst hxe
         obtain ⟨m, hm', hmp⟩ : ∃ m : Nat, x % q = m ∧ m ≠ 0 := ⟨_, rfl, hx0⟩
         rw [hm'] at hxt hxm
         have hz : ((m : Int) == 0) = false := beq_f (by omega)
         clear hx0 hxs
         go_wp2
         go_roundw
         case rel => exact ⟨x, q + 1, _, rfl, by rw [HLN.out]; go_num, by go_num, hx1, hx2, by omega, by omega, HD.out, HST.out⟩
         case measure => simp [intOf]; omega
    · rw [if_neg h0] at hd'
      obtain ⟨m0, hm0, hmp0⟩ : ∃ m : Nat, kk % q = m ∧ m ≠ 0 := ⟨_, rfl, h0⟩
      rw [hm0] at ht hm
      have hz0 : ((m0 : Int) == 0) = false := beq_f (by omega)
      have HD := Lib.hid hd'
      have HST := Lib.hid hst
      clear hd' h0 hst hm0
      go_wp2
      go_loop [0] (fun x => StripInv q k2 x) (fun x => (intOf x).toNat)
      case atStart => exact ⟨14, kk, rfl, h1, h2, HS.out⟩
      case round =>
       obtain ⟨g, x, rfl, hx1, hx2, hxs⟩ := hrel
       have hxt : (x : Int).tmod (q : Int) = ((x % q : Nat) : Int) := rfl
       have hxm : (x : Int) % (q : Int) = ((x % q : Nat) : Int) := rfl
       have hxq : (x : Int).tdiv (q : Int) = ((x / q : Nat) : Int) := rfl
       have hxd : (x : Int) / (q : Int) = ((x / q : Nat) : Int) := rfl
       by_cases hx0 : x % q = 0
       · rw [hx0] at hxt hxm
         obtain ⟨g', rfl, hg⟩ := strip_step hxs hx0
         have hge : 1 ≤ x / q := by
          rcases Nat.eq_zero_or_pos (x / q) with e | e
          · have := Nat.div_add_mod x q; rw [e, hx0] at this; omega
          · exact e
         have hlt : x / q < x := Nat.div_lt_self hx1 hq2
         have HG := Lib.hid hg
         clear hxs hg hx0
         generalize x / q = y at *
         go_wp2
         go_round
         case rel => exact ⟨g', y, by go_num, hge, by omega, HG.out⟩
         case measure => simp [intOf]; omega
       · have hxe := strip_end hxs hx0
         subst hxe
         obtain ⟨m, hm', hmp⟩ : ∃ m : Nat, x % q = m ∧ m ≠ 0 := ⟨_, rfl, hx0⟩
         rw [hm'] at hxt hxm
         have hz : ((m : Int) == 0) = false := beq_f (by omega)
         clear hx0 hxs
         go_wp2
         go_roundw
         case rel => exact ⟨x, q + 1, _, rfl, by go_num, by go_num, hx1, hx2, by omega, by omega, HD.out, HST.out⟩
         case measure => simp [intOf]; omega
  · have he := dvs_end hd (by omega)
    subst he
    have hsl := slice122 w.heap.size acc.length (by omega)
    have hb : acc.length ≤ 50 := by omega
    have HST := Lib.hid hst
    clear hst hd
    go_wp2
    go_ret
    obtain ⟨vs, hO, hv, hB⟩ := HST.out
    refine ⟨rfl, ?_, hB⟩
    have hl := (Own.rd hO).len
    have hr := Rdv.upto (Ownv.rd (Ownv.upto hO (m := acc.length) hb)) (Nat.le_refl _)
    refine ⟨by simp [ints], Nat.le_refl _, by unfold maxLen; omega, nofun, (Own.rd hO).spot ∘ fun _ => by omega, (Own.rd hO).lt ∘ fun _ => by omega, fun q v hq => ?_⟩
    rw [List.getElem?_map] at hq
    cases hq2 : (ints acc)[q]? with
    | none => rw [hq2] at hq; cases hq
    | some x =>
      rw [hq2] at hq
      obtain rfl := Option.some.inj hq
      obtain ⟨hql, hqe⟩ := List.getElem?_eq_some_iff.1 hq2
      rw [ints_len] at hql
      have hc := Rd.cell (Own.rd hO) (show q < 50 by omega)
      rw [hc, hv q hql, ← hqe, ← gi_eq, gi_ints _ _ hql]
theorem wp_scope_fwd {P : Program} {a : Act} {w : World} {Q : Exit → Act → World → Prop} {c rest : Code} (l : Nat) (hf : findLabel c l = some rest)
 (first : c.wp P (Exit.jump l (fun a w => rest.wp P (Exit.jump l (fun _ _ => False) Q) a w) Q) a w) : (Code.scope c).wp P Q a w :=
 wp_scope_jumps l (fun a w => rest.wp P (Exit.jump l (fun _ _ => False) Q) a w) (fun _ _ => 0) hf first fun a w h => Code.wp_mono (fun e a w h => by
  cases e <;> first | exact h | exact ⟨h.1, h.2.elim⟩) h
def Obj3 (w : World) (base b : Nat) (x y z : Int) : Prop := Own .i64 262 w base (some ⟨b, 0, none⟩) 3 3 [x, y, z]
theorem Obj3.new (w : World) (x y z : Int) : Obj3 (w.alloc (.cells #[.int .i64 x, .int .i64 y, .int .i64 z] 262)) w.heap.size w.heap.size x y z :=
 Own.of_eq (Ownv.lit w #[.int .i64 x, .int .i64 y, .int .i64 z] 262 rfl (Nat.le_refl _) (by show 3 ≤ maxLen; unfold maxLen; omega)) rfl rfl
theorem Obj3.facts {w : World} {base b : Nat} {x y z : Int} (h : Obj3 w base b x y z) : w.cell? ⟨b, 0, none⟩ = some (.int .i64 x) ∧ w.cell? ⟨b, 1, none⟩ = some (.int .i64 y) ∧ w.cell? ⟨b, 2, none⟩ = some (.int .i64 z) ∧ w.frozen? ⟨b, 0, none⟩ = false ∧ w.frozen? ⟨b, 1, none⟩ = false ∧ w.frozen? ⟨b, 2, none⟩ = false :=
 ⟨Rd.cell (Own.rd h) (j := 0) (by omega), Rd.cell (Own.rd h) (j := 1) (by omega), Rd.cell (Own.rd h) (j := 2) (by omega), Ownv.frozen h (by omega) 0, Ownv.frozen h (by omega) 1, Ownv.frozen h (by omega) 2⟩
theorem Obj3.row {w : World} {base b : Nat} {x y z : Int} (h : Obj3 w base b x y z) : w.heap[b]? = some (.cells #[.int .i64 x, .int .i64 y, .int .i64 z] 262 (0, 0)) := by
 obtain ⟨_, h2⟩ := Ownv.cases h
 rcases h2 with ⟨h3, _⟩ | ⟨g, cur, h3, hb, hh, hnc, hcm, hs, ht⟩
 · cases h3
 · cases h3
   have : cur.toList = [.int .i64 x, .int .i64 y, .int .i64 z] := by
    rw [← List.take_of_length_le (l := cur.toList) (i := 3) (by simp [hs])]; exact ht
   rw [hh, show cur = #[.int .i64 x, .int .i64 y, .int .i64 z] from Array.toList_inj.1 this]
theorem Obj3.mono {w : World} {base base' b : Nat} {x y z : Int} (h : Obj3 w base b x y z) (hb : base' ≤ base) : Obj3 w base' b x y z := Ownv.mono h hb
theorem Obj3.set0 {w : World} {base b : Nat} {x y z : Int} (h : Obj3 w base b x y z) (v : Int) : Obj3 (w.setCell ⟨b, 0, none⟩ (.int .i64 v)) base b v y z := (Own.set_ h (j := 0) (by omega) v).1
theorem Obj3.set1 {w : World} {base b : Nat} {x y z : Int} (h : Obj3 w base b x y z) (v : Int) : Obj3 (w.setCell ⟨b, 1, none⟩ (.int .i64 v)) base b x v z := (Own.set_ h (j := 1) (by omega) v).1
theorem Obj3.set2 {w : World} {base b : Nat} {x y z : Int} (h : Obj3 w base b x y z) (v : Int) : Obj3 (w.setCell ⟨b, 2, none⟩ (.int .i64 v)) base b x y v := (Own.set_ h (j := 2) (by omega) v).1
theorem Obj3.below {w w1 : World} {base b : Nat} {x y z : Int} (h : Obj3 w base b x y z) (hB : Below w.heap.size w w1) : Obj3 w1 base b x y z := Ownv.below h hB
theorem Obj3.gr {w : World} {base b : Nat} {x y z : Int} (h : Obj3 w base b x y z) (j : Nat) (hj : j < 3) (v : Int) : w.grownBy (w.setCell ⟨b, j, none⟩ (.int .i64 v)) (some b) := by
 have := (Own.set_ h (j := j) hj v).2
 rw [adr_some, Nat.zero_add] at this
 exact this
theorem Obj3.beside {w : World} {base b B b' : Nat} {x y z x' y' z' : Int} (h : Obj3 w base b x y z) (h' : Obj3 w B b' x' y' z') (hne : b' ≠ b) (j : Nat) (hj : j < 3) (v : Int) : Obj3 (w.setCell ⟨b, j, none⟩ (.int .i64 v)) B b' x' y' z' :=
 Ownv.grown h' (h.gr j hj v) (fun _ he => hne (Option.some.inj he))
theorem Obj3.bel {w w0 : World} {base b B : Nat} {x y z : Int} (h : Obj3 w base b x y z) (hB : Below B w0 w) (hb : B ≤ b) (hs : w0.heap.size ≤ w.heap.size) (j : Nat) (hj : j < 3) (v : Int) : Below B w0 (w.setCell ⟨b, j, none⟩ (.int .i64 v)) := by
 have hg := h.gr j hj v
 exact ⟨hg.os.trans hB.os, hg.tape.trans hB.tape, hg.output.trans hB.output, Nat.le_trans hs hg.size, fun k hk => (hg.block k (Nat.lt_of_lt_of_le (Nat.lt_of_lt_of_le hk hb) (Nat.le_of_lt (Ownv.blk_ge h (by omega)).2)) (by intro he; have := Option.some.inj he; omega)).trans (hB.block k hk)⟩
theorem res64 (a : Array Value) (W : World) (base g : Nat) (x y z : Int) (E : Int) (h2 : a.getD 2 undef = .pointer (some ⟨g, 0, none⟩)) (h3 : a.getD 3 undef = .int .i64 E) (hO : Obj3 W base g x y z) :
 (results Tryz.f208 a).run Tryz.prog W = .ok (.tuple #[.agg #[.int .i64 x, .int .i64 y, .int .i64 z], .int .i64 E]) W := by
 rw [results_cell_tmp rfl, h2, h3]
 have hl := run_loadVar_row (P := Tryz.prog) W g 262 262 _ (0, 0) _ hO.row Tryz.underlying262 rfl (by kernel_rfl)
 simp [asAddr, hl, Sem.run_pure]
def permV (k : Int) : Value := if validK k = true then .agg #[.int .i64 k, .int .i64 (f1N k.toNat : Int), .int .i64 (f2N k.toNat : Int)] else .agg #[.int .i64 0, .int .i64 0, .int .i64 0]
def permE (k : Int) : Int := if validK k = true then 0 else 2
def OfSt (w wr : World) (k a b : Nat) (A : Option Addr) (n : Nat) (D : List Nat) : Prop :=
 Obj3 wr w.heap.size (w.heap.size + 1) k a b ∧ Obj3 wr w.heap.size w.heap.size 0 0 0 ∧ Rd .i64 wr A n n (ints D) ∧ Below w.heap.size w wr
theorem OfSt.set {w wr : World} {k a b : Nat} {A : Option Addr} {n : Nat} {D : List Nat} (h : OfSt w wr k a b A n D) (hA : A ≠ none → blk A ≠ w.heap.size + 1) (j : Nat) (hj : j < 3) (v : Int) {a' b' : Nat} (hO : Obj3 (wr.setCell ⟨w.heap.size + 1, j, none⟩ (.int .i64 v)) w.heap.size (w.heap.size + 1) k a' b') :
 OfSt w (wr.setCell ⟨w.heap.size + 1, j, none⟩ (.int .i64 v)) k a' b' A n D :=
 ⟨hO, h.1.beside h.2.1 (by omega) j hj v, Rdv.grown h.2.2.1 (h.1.gr j hj v) (fun ha he => hA ha (Option.some.inj he)), h.1.bel h.2.2.2 (by omega) h.2.2.2.size j hj v⟩
def OfInv (w : World) (k : Nat) (A : Option Addr) (n : Nat) (D : List Nat) (i : Value) (wr : World) : Prop := ∃ j : Nat, j ≤ n ∧ i = .int .i64 j ∧ OfSt w wr k 3 (prodL (D.take j)) A n D
def OfInv2 (w : World) (k F f2 : Nat) (A : Option Addr) (n : Nat) (D : List Nat) (wr : World) : Prop := ∃ m f : Nat, fnd m f D = some F ∧ OfSt w wr k f f2 A n D
def cellNat (wr : World) (b j : Nat) : Nat := match wr.cell? ⟨b, j, none⟩ with
 | some (.int _ v) => v.toNat
 | _ => 0
theorem prodL_take (D : List Nat) (j : Nat) (h : j < D.length) : prodL (D.take (j + 1)) = prodL (D.take j) * D[j] := by
 rw [List.take_add_one, List.getElem?_eq_getElem h, prodL_app]; simp [prodL]
theorem prodL_take_le {D : List Nat} (hp : ∀ q ∈ D, 1 ≤ q) (j : Nat) : prodL (D.take j) ≤ prodL D := by
 have := prodL_le (a := D.take j) (t := D.drop j) (by rw [List.take_append_drop]; exact hp)
 rwa [List.take_append_drop] at this
theorem of_any (k : Int) (w : World) : Calls Tryz.prog 208 #[.int .i64 k] w fun e w' => e = .returned (.tuple #[permV k, .int .i64 (permE k)]) ∧ Below w.heap.size w w' := by
 by_cases hv : validK k = true
 · obtain ⟨kb0, kb1⟩ := valid_bd hv
   obtain ⟨n, rfl⟩ : ∃ n : Nat, k = (n : Int) := ⟨k.toNat, by omega⟩
   have hP := prm hv
   have e1 : permV (n : Int) = .agg #[.int .i64 n, .int .i64 (f1N n : Int), .int .i64 (f2N n : Int)] := by unfold permV; rw [if_pos hv, Int.toNat_natCast]
   have e2 : permE (n : Int) = 0 := by unfold permE; rw [if_pos hv]
   rw [e1, e2]
   clear e1 e2
   have hf2 : f2N n = prodL (dvL n) := rfl
   obtain ⟨-, -, pd, pf, -, pl, pb1, pb2, pp⟩ := hP
   rw [hf2] at pb2 ⊢
   have HP := Lib.hid pp
   have HF := Lib.hid pf
   clear pp pf hf2
   generalize dvL n = D at *
   generalize f1N n = F at *
   have HPB := Lib.hid pb2
   clear pb2
   go_enter Tryz.func208, Tryz.ntmps208
   go_wp2_with fail
   go_step3
   go_wp2_with fail
   refine (valid_any _ _).mono ?_
   rintro e w1 ⟨rfl, hB1⟩
   rw [hv]
   have hO : Obj3 w1 w.heap.size w.heap.size 0 0 0 := Ownv.below (Ownv.alloc (Obj3.new w 0 0 0) _) hB1
   have hO1 : Obj3 w1 w.heap.size (w.heap.size + 1) n 3 1 := by
    have h1 := Obj3.new (w.alloc (.cells #[.int .i64 0, .int .i64 0, .int .i64 0] 262)) n 3 1
    rw [show (w.alloc (.cells #[.int .i64 0, .int .i64 0, .int .i64 0] 262)).heap.size = w.heap.size + 1 by simp] at h1
    exact (h1.mono (by omega)).below hB1
   have hBw : Below w.heap.size w w1 := (((Below.refl _ w).alloc (Nat.le_refl _) _).alloc (by simp) _).trans (hB1.mono (by simp; omega))
   have hsz : w.heap.size + 2 ≤ w1.heap.size := by have := hB1.size; simpa using this
   clear hB1 hv
   go_wp2_with fail
   refine (divisors_any n D (by omega) (by omega) pd pl w1).mono ?_
   rintro e w2 ⟨rfl, hR, hB2⟩
   have hst : OfSt w w2 n 3 (prodL (D.take 0)) (some ⟨w1.heap.size, 0, none⟩) D.length D := ⟨hO1.below hB2, hO.below hB2, hR, hBw.trans (hB2.mono hBw.size)⟩
   have hA : (some ⟨w1.heap.size, 0, none⟩ : Option Addr) ≠ none → blk (some ⟨w1.heap.size, 0, none⟩) ≠ w.heap.size + 1 := fun _ he => by
    have : w1.heap.size = w.heap.size + 1 := he
    omega
   have HA := Lib.hid hA
   have hDl : D.length ≤ 12 := pl
   clear hO hO1 hBw hB2 hR hA pd
   generalize w1.heap.size = g at *
   go_wp2_with fail
   go_loopw [18] (fun i wr => OfInv w n (some ⟨g, 0, none⟩) D.length D i wr) (fun i _ => D.length - (intOf i).toNat)
   case atStart => exact ⟨0, by omega, rfl, hst⟩
   case round =>
    obtain ⟨j, hj, rfl, hs⟩ := hrel
    clear hst
    by_cases hlt : j < D.length
    · have hix := fun W => Rdv.ix hs.2.2.1 el33 hlt .i64 W
      have hcell := Rd.cell hs.2.2.1 hlt
      rw [gi_ints _ _ hlt, adr_some, Nat.zero_add] at hcell
      obtain ⟨c0, c1, c2, f0, f1, f2⟩ := hs.1.facts
      have hpt := prodL_take D j hlt
      have hple := prodL_take_le HP.out (j + 1)
      have hpb := HPB.out
      obtain ⟨P', hP'⟩ : ∃ P', prodL (D.take (j + 1)) = P' := ⟨_, rfl⟩
      have HS := Lib.hid hs
      rw [hP'] at hpt hple
      have HPT := Lib.hid hP'
      generalize prodL (D.take j) = p at *
      have em : (p : Int) * (D[j] : Int) = (P' : Int) := by rw [hpt, Int.natCast_mul]
      have hP'b : P' ≤ 6144 := by omega
      clear hs hP' hpt hple hpb
      generalize D[j] = d at *
      go_wp2
      go_roundw
      case rel => exact ⟨j + 1, by omega, by go_num, by rw [HPT.out]; exact HS.out.set HA.out 2 (by omega) _ (HS.out.1.set2 _)⟩
      case measure => simp [intOf]; omega
    · obtain rfl : j = D.length := by omega
      rw [List.take_length] at hs
      go_wp2_with fail
      go_loopw [35] (fun _ wr => OfInv2 w n F (prodL D) (some ⟨g, 0, none⟩) D.length D wr) (fun _ wr => F - cellNat wr (w.heap.size + 1) 1)
      case atStart => exact ⟨50, 3, HF.out, hs⟩
      case round =>
       obtain ⟨m, f, hfd, hst⟩ := hrel
       clear hs
       obtain ⟨c0, c1, c2, f0, f1, f2⟩ := hst.1.facts
       have hfF := fnd_le _ _ _ _ hfd
       have HFD := Lib.hid hfd
       clear hfd
       go_wp2_with fail
       refine (coprime_any f (by omega) _ _ _ D HP.out _ hst.2.2.1).mono ?_
       rintro e w4 ⟨rfl, rfl⟩
       by_cases hc : cop f D = true
       · obtain rfl := fnd_end HFD.out hc
         rw [hc]
         obtain ⟨d0, d1, d2, g0, g1, g2⟩ := hst.2.1.facts
         have HST := Lib.hid hst
         clear hst hc
         go_wp2
         rw [Exit.noGoto_ret]
         have q0 := HST.out.2.1
         have qB := HST.out.2.2.2
         have h1 := q0.bel (B := w.heap.size) (w0 := w) qB (Nat.le_refl _) qB.size 0 (by omega) n
         have h2 := (q0.set0 n).bel h1 (Nat.le_refl _) h1.size 1 (by omega) f
         have h3 := ((q0.set0 n).set1 f).bel h2 (Nat.le_refl _) h2.size 2 (by omega) (prodL D)
         exact bodyPost_ret (res64 _ _ _ w.heap.size n f (prodL D) 0 rfl rfl (((q0.set0 n).set1 f).set2 (prodL D))) rfl ⟨rfl, h3⟩
       · have hcf : cop f D = false := by simpa using hc
         obtain ⟨hle, m', hm'⟩ := fnd_step HFD.out hcf
         rw [hcf]
         have HM := Lib.hid hm'
         have HST := Lib.hid hst
         clear hst hc hcf hm'
         go_wp2
         go_roundw
         case rel => exact ⟨m', f + 2, HM.out, HST.out.set HA.out 1 (by omega) _ (HST.out.1.set1 _)⟩
         case measure =>
          have h1 : cellNat wr (w.heap.size + 1) 1 = f := by unfold cellNat; rw [c1]; rfl
          have h2 : cellNat (wr.setCell ⟨w.heap.size + 1, 1, none⟩ (.int .i64 ((f : Int) + 2))) (w.heap.size + 1) 1 = f + 2 := by
           unfold cellNat; rw [(HST.out.1.set1 ((f : Int) + 2)).facts.2.1]; simp; omega
          rw [h1, h2]; omega
 · have e1 : permV k = .agg #[.int .i64 0, .int .i64 0, .int .i64 0] := by unfold permV; rw [if_neg hv]
   have e2 : permE k = 2 := by unfold permE; rw [if_neg hv]
   rw [e1, e2]
   have hv' : validK k = false := by simpa using hv
   clear e1 e2 hv
   go_enter Tryz.func208, Tryz.ntmps208
   go_wp2_with fail
   refine wp_scope_fwd 0 rfl ?_
   go_wp2_with fail
   refine (valid_any _ _).mono ?_
   rintro e w1 ⟨rfl, hB1⟩
   have hO : Obj3 w1 w.heap.size w.heap.size 0 0 0 := Ownv.below (Ownv.alloc (Obj3.new w 0 0 0) _) hB1
   obtain ⟨c0, c1, c2, f0, f1, f2⟩ := hO.facts
   go_wp2
   go_step3
   refine ⟨rfl, ?_⟩
   go_wp2
   simp only [Exit.jump]
   have hO' := ((hO.set0 0).set1 0).set2 0
   have h1 := hO.bel (B := w.heap.size) (w0 := w) ((((Below.refl _ w).alloc (Nat.le_refl _) _).alloc (by simp) _).trans (hB1.mono (by simp; omega))) (Nat.le_refl _) (by have := hB1.size; simp at this; omega) 0 (by omega) 0
   have h2 := (hO.set0 0).bel h1 (Nat.le_refl _) h1.size 1 (by omega) 0
   have h3 := ((hO.set0 0).set1 0).bel h2 (Nat.le_refl _) h2.size 2 (by omega) 0
   exact bodyPost_ret (res64 _ _ _ w.heap.size 0 0 0 2 rfl rfl hO') rfl ⟨rfl, h3⟩
set_option maxRecDepth 100000
theorem bnext {w w1 w2 : World} (h : Below w.heap.size w w1) (h2 : Below w1.heap.size w1 w2) : Below w.heap.size w w2 := h.trans (h2.mono h.size)
theorem ordset_any (A : Option Addr) (n c : Nat) (vs : List Int) (j : Nat) (v : Int) (base : Nat) (w : World) (h : Own .i64 3 w base A n c vs) (hj : j < n) :
 Calls Tryz.prog 214 #[.slice A n c, .int .i64 j, .int .i64 v] w fun e w' => e = .returned (.tuple #[]) ∧ Own .i64 3 w' base A n c (vs.set j v) ∧ w.grownBy w' (some (blk A)) := by
 have hix := fun W => Rdv.ix (Own.rd h) el33 hj .i64 W
 have hcell := Rd.cell (Own.rd h) hj
 have hfz := Ownv.frozen h (by have := Rdv.le (Own.rd h); omega) j
 have HSET := Lib.hid (Own.set_ h hj v)
 clear h
 go_enter Tryz.func214, Tryz.ntmps214
 go_wp2
 go_returns
 exact ⟨rfl, HSET.out.1, HSET.out.2⟩
theorem grown_below {B : Nat} {w0 w w' : World} {r : Nat} (hb : Below B w0 w) (hg : w.grownBy w' (some r)) (hr : B ≤ r) (hs : B ≤ w.heap.size) : Below B w0 w' :=
 ⟨hg.os.trans hb.os, hg.tape.trans hb.tape, hg.output.trans hb.output, Nat.le_trans hb.size hg.size, fun k hk => (hg.block k (by omega) (by intro he; have := Option.some.inj he; omega)).trans (hb.block k hk)⟩
theorem gi_set (m : List Int) (i t : Nat) (v : Int) (hi : i < m.length) : gi (m.set i v) t = if i = t then v else gi m t := by
 unfold gi
 rw [List.getD_eq_getElem?_getD, List.getElem?_set]
 by_cases h : i = t
 · rw [if_pos h, if_pos h, if_pos (by omega)]; rfl
 · rw [if_neg h, if_neg h, ← List.getD_eq_getElem?_getD]
def MadeSt (w wr : World) (k f1 f2 b : Nat) (A : Option Addr) (j : Nat) : Prop :=
 ∃ vs, Own .i64 3 wr w.heap.size A k k vs ∧ (∀ q, q < j → gi vs q = (((f1 * q + f2 * q % k * q) % k : Nat) : Int)) ∧ Obj3 wr w.heap.size b k f1 f2 ∧ Below w.heap.size w wr
def MadeInv (w : World) (k f1 f2 b : Nat) (A : Option Addr) (i : Value) (wr : World) : Prop := ∃ j : Nat, j ≤ k ∧ i = .int .i64 j ∧ MadeSt w wr k f1 f2 b A j
def ordR (k : Int) : List Int := if validK k = true then ordL k.toNat else []
theorem madei_any (k : Int) (w : World) : Calls Tryz.prog 213 #[.int .i64 k, .func (.func 214) #[] #[]] w fun e w' => ∃ A n, e = .returned (.tuple #[.slice A n n, .int .i64 (permE k)]) ∧ Own .i64 3 w' w.heap.size A n n (ordR k) ∧ Below w.heap.size w w' := by
 by_cases hv : validK k = true
 · obtain ⟨kb0, kb1⟩ := valid_bd hv
   obtain ⟨n, rfl⟩ : ∃ n : Nat, k = (n : Int) := ⟨k.toNat, by omega⟩
   have hP := prm hv
   have e1 : permV (n : Int) = .agg #[.int .i64 n, .int .i64 (f1N n : Int), .int .i64 (f2N n : Int)] := by unfold permV; rw [if_pos hv, Int.toNat_natCast]
   have e2 : permE (n : Int) = 0 := by unfold permE; rw [if_pos hv]
   have e3 : ordR (n : Int) = ordL n := by unfold ordR; rw [if_pos hv, Int.toNat_natCast]
   rw [e2, e3]
   have ho := fun W => Lib.hid (of_any (n : Int) W)
   rw [e1, e2] at ho
   have hf1 := hP.b1
   have hf2 := hP.b2
   have HORD : Hid (∀ vs : List Int, vs.length = n → (∀ q, q < n → gi vs q = (((f1N n * q + f2N n * q % n * q) % n : Nat) : Int)) → vs = ordL n) := Lib.hid (by
    intro vs hl hq
    refine ext_gi (by rw [hl]; simp [ordL]) fun q hq' => ?_
    rw [hq q (by omega), gi_eq _ _ (by simp [ordL]; omega)]
    simp [ordL, piN])
   clear e1 e2 e3 hv hP
   generalize f1N n = f1 at *
   generalize f2N n = f2 at *
   go_enter Tryz.func213, Tryz.ntmps213
   go_wp2_with fail
   refine (ho _).out.mono ?_
   rintro e w1 ⟨rfl, hB1⟩
   have hO1 := Obj3.new w1 n f1 f2
   go_wp2_with (at_make; refine list_of rfl fun K hK => wp_mk (n := n) _ _ 39 rfl el33 rfl rfl (by omega) (by unfold maxLen; omega) ?_; intro Am wm hOm hBm hA; refine hK _ _ ?_; clear hK K)
   have hsz := hB1.size
   have hO2 : Obj3 wm w.heap.size w1.heap.size n f1 f2 := (hO1.mono hsz).below hBm
   have hblk : blk Am ≠ w1.heap.size := by
    have := (Ownv.blk_ge hOm (by omega)).1
    simp at this
    omega
   have hst : MadeSt w wm n f1 f2 w1.heap.size Am 0 := ⟨List.replicate n 0, Own.of_eq (Ownv.mono hOm (by simp; omega)) rfl (by simp), by intro q hq; omega, hO2, (hB1.alloc hsz _).trans (hBm.mono (by simp; omega))⟩
   have HBLK := Lib.hid hblk
   clear hO1 hO2 hOm hBm hblk hsz hB1
   generalize w1.heap.size = b at *
   go_loopw [21] (fun i wr => MadeInv w n f1 f2 b Am i wr) (fun i _ => n - (intOf i).toNat)
   case atStart => exact ⟨0, by omega, rfl, hst⟩
   case round =>
    obtain ⟨j, hj, rfl, vs, hO, hq, hobj, hB⟩ := hrel
    clear hst
    by_cases hlt : j < n
    · obtain ⟨c0, c1, c2, f0, f1', f2'⟩ := hobj.facts
      have ha := fun W => Lib.hid (at_any n f1 f2 j (by omega) (by omega) hf1 hf2 (by omega) W)
      have HQ := Lib.hid hq
      clear hq f0 f1' f2'
      unfold polyV at ha
      go_wp2_with (first
       | (go_at_call 209; refine (ha _).out.mono ?_; rintro e w4 ⟨rfl, hB4⟩)
       | (go_at_call 214; refine (ordset_any Am n n vs j _ w.heap.size _ (Ownv.below hO hB4) hlt).mono ?_; rintro e w5 ⟨rfl, hO5, hg5⟩))
      have hl := (Own.rd hO).len
      have hg5' := hg5
      refine ⟨⟨j + 1, by omega, by go_num, _, hO5, fun q hq => ?_, Ownv.grown (hobj.below hB4) hg5 (fun _ he => HBLK.out (Option.some.inj he).symm), ?_⟩, by simp [intOf]; omega⟩
      · rw [gi_set _ _ _ _ (by omega)]
        by_cases e : j = q
        · subst e; rw [if_pos rfl]; simp [Int.natCast_emod, Int.natCast_add, Int.natCast_mul]
        · rw [if_neg e]; exact HQ.out q (by omega)
      · have hB' := hB.trans (hB4.mono hB.size)
        exact grown_below hB' hg5 (Ownv.blk_ge hO (by omega)).1 hB'.size
    · obtain rfl : j = n := by omega
      have HQ := Lib.hid hq
      clear hq
      go_wp2
      go_ret2
      exact ⟨Am, j, rfl, by rw [← HORD.out vs (Own.rd hO).len HQ.out]; exact hO, hB⟩
 · have e1 : permV k = .agg #[.int .i64 0, .int .i64 0, .int .i64 0] := by unfold permV; rw [if_neg hv]
   have e2 : permE k = 2 := by unfold permE; rw [if_neg hv]
   have e3 : ordR k = [] := by unfold ordR; rw [if_neg hv]
   rw [e2, e3]
   have ho := fun W => Lib.hid (of_any k W)
   rw [e1, e2] at ho
   clear e1 e2 e3 hv
   go_enter Tryz.func213, Tryz.ntmps213
   go_wp2_with fail
   refine (ho _).out.mono ?_
   rintro e w1 ⟨rfl, hB1⟩
   go_wp2
   go_ret2
   exact ⟨none, 0, rfl, Own.nilv _ _ _ _, hB1.alloc hB1.size _⟩
theorem order_any (k : Int) (w : World) : Calls Tryz.prog 168 #[.int .i64 k] w fun e w' => ∃ A n, e = .returned (.tuple #[.slice A n n, .int .i64 (permE k)]) ∧ Own .i64 3 w' w.heap.size A n n (ordR k) ∧ Below w.heap.size w w' := by
 go_enter Tryz.func168, Tryz.ntmps168
 go_wp2_with fail
 refine (madei_any k _).mono ?_
 rintro e w1 ⟨A, n, rfl, hO, hB⟩
 go_wp2
 go_ret2
 exact ⟨A, n, rfl, hO, hB⟩
end Go.Proofs.YtkdfefpnhaebfaaGreat.Tu
