/-
  Contracts of qpp.Order and of its inner functions: the permutation of a block size, or the error. Condition: none.
-/
import Derived.Test.YtkagdiejpcfggaaD
namespace Go.Proofs.Ytkagdiejpcfggaa
open Go.RowKit
set_option linter.unusedVariables false
theorem bnext {w w1 w2 : World} (h : Below w.heap.size w w1) (h2 : Below w1.heap.size w1 w2) : Below w.heap.size w w2 := h.trans (h2.mono h.size)
theorem ordset_any (A : Option Addr) (n c : Nat) (vs : List Int) (j : Nat) (v : Int) (base : Nat) (w : World) (h : Own .i64 3 w base A n c vs) (hj : j < n) :
    Calls Try.prog 56 #[.slice A n c, .int .i64 j, .int .i64 v] w fun e w' => e = .returned (.tuple #[]) ∧ Own .i64 3 w' base A n c (vs.set j v) ∧ w.grownBy w' (some (blk A)) := by
  have hix := fun W => Rdv.ix (Own.rd h) el33 hj .i64 W
  have hcell := Rd.cell (Own.rd h) hj
  have hfz := Ownv.frozen h (by have := Rdv.le (Own.rd h); omega) j
  have HSET := Lib.hid (Own.set_ h hj v)
  clear h
  go_enter Try.func56, Try.ntmps56
  go_wp2
  go_returns
  exact ⟨rfl, HSET.out.1, HSET.out.2⟩
theorem grown_below {B : Nat} {w0 w w' : World} {r : Nat} (hb : Below B w0 w) (hg : w.grownBy w' (some r)) (hr : B ≤ r) (hs : B ≤ w.heap.size) : Below B w0 w' :=
  ⟨hg.os.trans hb.os, hg.tape.trans hb.tape, hg.output.trans hb.output, Nat.le_trans hb.size hg.size, fun k hk => (hg.block k (by omega) (by intro he; have := Option.some.inj he; omega)).trans (hb.block k hk)⟩
theorem gi_set (m : List Int) (i t : Nat) (v : Int) (hi : i < m.length) : gi (m.set i v) t = if i = t then v else gi m t := by
  unfold gi
  rw [List.getD_eq_getElem?_getD, List.getElem?_set]
  by_cases h : i = t
  · rw [if_pos h, if_pos h, if_pos (by omega)]; rfl
  · rw [if_neg h, if_neg h, ← List.getD_eq_getElem?_getD]
def MadeSt (w wr : World) (k f1 f2 b : Nat) (A : Option Addr) (j : Nat) : Prop :=
  ∃ vs, Own .i64 3 wr w.heap.size A k k vs ∧ (∀ q, q < j → gi vs q = (((f1 * q + f2 * q % k * q) % k : Nat) : Int)) ∧ Obj3 wr w.heap.size b k f1 f2 ∧ Below w.heap.size w wr
def MadeInv (w : World) (k f1 f2 b : Nat) (A : Option Addr) (i : Value) (wr : World) : Prop := ∃ j : Nat, j ≤ k ∧ i = .int .i64 j ∧ MadeSt w wr k f1 f2 b A j
def ordR (k : Int) : List Int := if validK k = true then ordL k.toNat else []
set_option maxRecDepth 100000 in
set_option maxHeartbeats 1000000 in
theorem madei_any (k : Int) (w : World) : Calls Try.prog 55 #[.int .i64 k, .func (.func 56) #[] #[]] w fun e w' => ∃ A n, e = .returned (.tuple #[.slice A n n, .int .i64 (permE k)]) ∧ Own .i64 3 w' w.heap.size A n n (ordR k) ∧ Below w.heap.size w w' := by
  by_cases hv : validK k = true
  · obtain ⟨kb0, kb1⟩ := valid_bd hv
    obtain ⟨n, rfl⟩ : ∃ n : Nat, k = (n : Int) := ⟨k.toNat, by omega⟩
    have hP := prm hv
    have e1 : permV (n : Int) = .agg #[.int .i64 n, .int .i64 (f1N n : Int), .int .i64 (f2N n : Int)] := by unfold permV; rw [if_pos hv, Int.toNat_natCast]
    have e2 : permE (n : Int) = 0 := by unfold permE; rw [if_pos hv]
    have e3 : ordR (n : Int) = ordL n := by unfold ordR; rw [if_pos hv, Int.toNat_natCast]
    rw [e2, e3]
    have ho := fun W => Lib.hid (of_any (n : Int) W)
    rw [e1, e2] at ho
    have hf1 := hP.b1
    have hf2 := hP.b2
    have HORD : Hid (∀ vs : List Int, vs.length = n → (∀ q, q < n → gi vs q = (((f1N n * q + f2N n * q % n * q) % n : Nat) : Int)) → vs = ordL n) := Lib.hid (by
      intro vs hl hq
      refine ext_gi (by rw [hl]; simp [ordL]) fun q hq' => ?_
      rw [hq q (by omega), gi_eq _ _ (by simp [ordL]; omega)]
      simp [ordL, piN])
    clear e1 e2 e3 hv hP
    generalize f1N n = f1 at *
    generalize f2N n = f2 at *
    go_enter Try.func55, Try.ntmps55
    go_wp2_with fail
    refine (ho _).out.mono ?_
    rintro e w1 ⟨rfl, hB1⟩
    have hO1 := Obj3.new w1 n f1 f2
    go_wp2_with (at_make; refine list_of rfl fun K hK => wp_mk (n := n) _ _ 33 rfl el33 rfl rfl (by omega) (by unfold maxLen; omega) ?_; intro Am wm hOm hBm hA; refine hK _ _ ?_; clear hK K)
    have hsz := hB1.size
    have hO2 : Obj3 wm w.heap.size w1.heap.size n f1 f2 := (hO1.mono hsz).below hBm
    have hblk : blk Am ≠ w1.heap.size := by
      have := (Ownv.blk_ge hOm (by omega)).1
      simp at this
      omega
    have hst : MadeSt w wm n f1 f2 w1.heap.size Am 0 := ⟨List.replicate n 0, Own.of_eq (Ownv.mono hOm (by simp; omega)) rfl (by simp), by intro q hq; omega, hO2, (hB1.alloc hsz _).trans (hBm.mono (by simp; omega))⟩
    have HBLK := Lib.hid hblk
    clear hO1 hO2 hOm hBm hblk hsz hB1
    generalize w1.heap.size = b at *
    go_loopw [21] (fun i wr => MadeInv w n f1 f2 b Am i wr) (fun i _ => n - (intOf i).toNat)
    case atStart => exact ⟨0, by omega, rfl, hst⟩
    case round =>
      obtain ⟨j, hj, rfl, vs, hO, hq, hobj, hB⟩ := hrel
      clear hst
      by_cases hlt : j < n
      · obtain ⟨c0, c1, c2, f0, f1', f2'⟩ := hobj.facts
        have ha := fun W => Lib.hid (at_any n f1 f2 j (by omega) (by omega) hf1 hf2 (by omega) W)
        have HQ := Lib.hid hq
        clear hq f0 f1' f2'
        unfold polyV at ha
        go_wp2_with (first
          | (go_at_call 65; refine (ha _).out.mono ?_; rintro e w4 ⟨rfl, hB4⟩)
          | (go_at_call 56; refine (ordset_any Am n n vs j _ w.heap.size _ (Ownv.below hO hB4) hlt).mono ?_; rintro e w5 ⟨rfl, hO5, hg5⟩))
        have hl := (Own.rd hO).len
        have hg5' := hg5
        refine ⟨⟨j + 1, by omega, by go_num, _, hO5, fun q hq => ?_, Ownv.grown (hobj.below hB4) hg5 (fun _ he => HBLK.out (Option.some.inj he).symm), ?_⟩, by simp [intOf]; omega⟩
        · rw [gi_set _ _ _ _ (by omega)]
          by_cases e : j = q
          · subst e; rw [if_pos rfl]; simp [Int.natCast_emod, Int.natCast_add, Int.natCast_mul]
          · rw [if_neg e]; exact HQ.out q (by omega)
        · have hB' := hB.trans (hB4.mono hB.size)
          exact grown_below hB' hg5 (Ownv.blk_ge hO (by omega)).1 hB'.size
      · obtain rfl : j = n := by omega
        have HQ := Lib.hid hq
        clear hq
        go_wp2
        go_ret2
        exact ⟨Am, j, rfl, by rw [← HORD.out vs (Own.rd hO).len HQ.out]; exact hO, hB⟩
  · have e1 : permV k = .agg #[.int .i64 0, .int .i64 0, .int .i64 0] := by unfold permV; rw [if_neg hv]
    have e2 : permE k = 2 := by unfold permE; rw [if_neg hv]
    have e3 : ordR k = [] := by unfold ordR; rw [if_neg hv]
    rw [e2, e3]
    have ho := fun W => Lib.hid (of_any k W)
    rw [e1, e2] at ho
    clear e1 e2 e3 hv
    go_enter Try.func55, Try.ntmps55
    go_wp2_with fail
    refine (ho _).out.mono ?_
    rintro e w1 ⟨rfl, hB1⟩
    go_wp2
    go_ret2
    exact ⟨none, 0, rfl, Own.nilv _ _ _ _, hB1.alloc hB1.size _⟩
theorem order_any (k : Int) (w : World) : Calls Try.prog 38 #[.int .i64 k] w fun e w' => ∃ A n, e = .returned (.tuple #[.slice A n n, .int .i64 (permE k)]) ∧ Own .i64 3 w' w.heap.size A n n (ordR k) ∧ Below w.heap.size w w' := by
  go_enter Try.func38, Try.ntmps38
  go_wp2_with fail
  refine (madei_any k _).mono ?_
  rintro e w1 ⟨A, n, rfl, hO, hB⟩
  go_wp2
  go_ret2
  exact ⟨A, n, rfl, hO, hB⟩
end Go.Proofs.Ytkagdiejpcfggaa
