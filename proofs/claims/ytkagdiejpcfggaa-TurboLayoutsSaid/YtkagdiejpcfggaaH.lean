/-
  Contracts of qpp.Bits and of its inner functions: the interleaved bytes of a block size, or the error. Condition: none.
-/
import Derived.Test.YtkagdiejpcfggaaG
namespace Go.Proofs.Ytkagdiejpcfggaa
open Go.RowKit
set_option linter.unusedVariables false
theorem el22 : El Try.prog 22 5 (.int .u8 0) 1 := ⟨by kernel_rfl, by kernel_rfl, fun _ => by kernel_rfl, rfl⟩
theorem bitset_any (A B : Option Addr) (n c m d : Nat) (vs xs : List Int) (j v bb : Nat) (base : Nat) (w : World) (h : Own .u8 5 w base A n c vs) (hj : j < n) (hx : Rd .u8 w B m d xs) (hv : v < m) (hb : w.cell? ⟨bb, 0, none⟩ = some (.slice B m d)) :
    Calls Try.prog 50 #[.slice A n c, .int .i64 j, .int .i64 v, .pointer (some ⟨bb, 0, none⟩)] w fun e w' => e = .returned (.tuple #[]) ∧ Own .u8 5 w' base A n c (vs.set j (gi xs v)) ∧ w.grownBy w' (some (blk A)) := by
  have hix := fun W => Rdv.ix (Own.rd h) el22 hj .i64 W
  have hcell := Rd.cell (Own.rd h) hj
  have hfz := Ownv.frozen h (by have := Rdv.le (Own.rd h); omega) j
  have hix2 := fun W => Rdv.ix hx el22 hv .i64 W
  have hcell2 := Rd.cell hx hv
  have HSET := Lib.hid (Own.set_ h hj (gi xs v))
  clear h hx
  go_enter Try.func50, Try.ntmps50
  go_wp2
  go_returns
  exact ⟨rfl, HSET.out.1, HSET.out.2⟩
def MixSt (w wr : World) (k f1 f2 b bb : Nat) (A B : Option Addr) (d : Nat) (xs : List Int) (j : Nat) : Prop :=
  ∃ vs, Own .u8 5 wr w.heap.size A k k vs ∧ (∀ q, q < j → gi vs q = gi xs ((f1 * q + f2 * q % k * q) % k)) ∧ Obj3 wr w.heap.size b k f1 f2 ∧ Below w.heap.size w wr
def MixInv (w : World) (k f1 f2 b bb : Nat) (A B : Option Addr) (d : Nat) (xs : List Int) (i : Value) (wr : World) : Prop := ∃ j : Nat, j ≤ k ∧ i = .int .i64 j ∧ MixSt w wr k f1 f2 b bb A B d xs j
def mixR (xs : List Int) : List Int := if validK (xs.length : Int) = true then (List.range xs.length).map (fun i => gi xs (piN xs.length i)) else []
set_option maxRecDepth 100000 in
set_option maxHeartbeats 1000000 in
theorem madeb_any (n : Nat) (B : Option Addr) (d bb : Nat) (xs : List Int) (w : World) (hx : Rd .u8 w B n d xs) (hb : w.cell? ⟨bb, 0, none⟩ = some (.slice B n d)) (hbb : bb < w.heap.size) :
    Calls Try.prog 49 #[.int .i64 n, .func (.func 50) #[] #[.pointer (some ⟨bb, 0, none⟩)]] w fun e w' => ∃ A l, e = .returned (.tuple #[.slice A l l, .int .i64 (permE n)]) ∧ Own .u8 5 w' w.heap.size A l l (mixR xs) ∧ Below w.heap.size w w' := by
  have hxl := hx.len
  by_cases hv : validK (n : Int) = true
  · obtain ⟨kb0, kb1⟩ := valid_bd hv
    have hP := prm hv
    have e1 : permV (n : Int) = .agg #[.int .i64 n, .int .i64 (f1N n : Int), .int .i64 (f2N n : Int)] := by unfold permV; rw [if_pos hv, Int.toNat_natCast]
    have e2 : permE (n : Int) = 0 := by unfold permE; rw [if_pos hv]
    have e3 : mixR xs = (List.range n).map (fun i => gi xs (piN n i)) := by unfold mixR; rw [hxl, if_pos hv]
    rw [e2, e3]
    have ho := fun W => Lib.hid (of_any (n : Int) W)
    rw [e1, e2] at ho
    have hf1 := hP.b1
    have hf2 := hP.b2
    have HORD : Hid (∀ vs : List Int, vs.length = n → (∀ q, q < n → gi vs q = gi xs ((f1N n * q + f2N n * q % n * q) % n)) → vs = (List.range n).map (fun i => gi xs (piN n i))) := Lib.hid (by
      intro vs hl hq
      refine ext_gi (by rw [hl]; simp) fun q hq' => ?_
      rw [hq q (by omega), gi_eq ((List.range n).map fun i => gi xs (piN n i)) q (by simp; omega), List.getElem_map, List.getElem_range]
      rfl)
    clear e1 e2 e3 hv hP hxl
    generalize f1N n = f1 at *
    generalize f2N n = f2 at *
    go_enter Try.func49, Try.ntmps49
    go_wp2_with fail
    refine (ho _).out.mono ?_
    rintro e w1 ⟨rfl, hB1⟩
    have hO1 := Obj3.new w1 n f1 f2
    go_wp2_with (at_make; refine list_of rfl fun K hK => wp_mk (n := n) _ _ 22 rfl el22 rfl rfl (by omega) (by unfold maxLen; omega) ?_; intro Am wm hOm hBm hA; refine hK _ _ ?_; clear hK K)
    have hsz := hB1.size
    have hO2 : Obj3 wm w.heap.size w1.heap.size n f1 f2 := (hO1.mono hsz).below hBm
    have hblk : blk Am ≠ w1.heap.size := by
      have := (Ownv.blk_ge hOm (by omega)).1
      simp at this
      omega
    have hst : MixSt w wm n f1 f2 w1.heap.size bb Am B d xs 0 := ⟨List.replicate n 0, Own.of_eq (Ownv.mono hOm (by simp; omega)) rfl (by simp), by intro q hq; omega, hO2, (hB1.alloc hsz _).trans (hBm.mono (by simp; omega))⟩
    have HBLK := Lib.hid hblk
    clear hO1 hO2 hOm hBm hblk hsz hB1
    generalize w1.heap.size = b at *
    go_loopw [21] (fun i wr => MixInv w n f1 f2 b bb Am B d xs i wr) (fun i _ => n - (intOf i).toNat)
    case atStart => exact ⟨0, by omega, rfl, hst⟩
    case round =>
      obtain ⟨j, hj, rfl, vs, hO, hq, hobj, hB⟩ := hrel
      clear hst
      by_cases hlt : j < n
      · obtain ⟨c0, c1, c2, f0, f1', f2'⟩ := hobj.facts
        have ha := fun W => Lib.hid (at_any n f1 f2 j (by omega) (by omega) hf1 hf2 (by omega) W)
        have hpn : (f1 * j + f2 * j % n * j) % n < n := Nat.mod_lt _ (by omega)
        have HQ := Lib.hid hq
        obtain ⟨pv, hpv⟩ : ∃ pv, (f1 * j + f2 * j % n * j) % n = pv := ⟨_, rfl⟩
        rw [hpv] at ha hpn
        have HPV := Lib.hid hpv
        have HX := Lib.hid hx
        have HBC := Lib.hid hb
        clear hq f0 f1' f2' hpv hx hb
        unfold polyV at ha
        go_wp2_with (first
          | (go_at_call 65; refine (ha _).out.mono ?_; rintro e w4 ⟨rfl, hB4⟩)
          | (go_at_call 50; refine (bitset_any Am B n n n d vs xs j pv bb w.heap.size _ (Ownv.below hO hB4) hlt (Rdv.below HX.out (bnext hB hB4)) hpn (((bnext hB hB4).cell (p := ⟨bb, 0, none⟩) hbb).trans HBC.out)).mono ?_; rintro e w5 ⟨rfl, hO5, hg5⟩))
        have hl := (Own.rd hO).len
        have hB' := hB.trans (hB4.mono hB.size)
        refine ⟨⟨j + 1, by omega, by go_num, _, hO5, fun q hq => ?_, Ownv.grown (hobj.below hB4) hg5 (fun _ he => HBLK.out (Option.some.inj he).symm), grown_below hB' hg5 (Ownv.blk_ge hO (by omega)).1 hB'.size⟩, by simp [intOf]; omega⟩
        rw [gi_set _ _ _ _ (by omega)]
        by_cases e : j = q
        · subst e; rw [if_pos rfl, HPV.out]
        · rw [if_neg e]; exact HQ.out q (by omega)
      · obtain rfl : j = n := by omega
        have HQ := Lib.hid hq
        clear hq
        go_wp2
        go_ret2
        exact ⟨Am, j, rfl, by rw [← HORD.out vs (Own.rd hO).len HQ.out]; exact hO, hB⟩
  · have e1 : permV (n : Int) = .agg #[.int .i64 0, .int .i64 0, .int .i64 0] := by unfold permV; rw [if_neg hv]
    have e2 : permE (n : Int) = 2 := by unfold permE; rw [if_neg hv]
    have e3 : mixR xs = [] := by unfold mixR; rw [hxl, if_neg hv]
    rw [e2, e3]
    have ho := fun W => Lib.hid (of_any (n : Int) W)
    rw [e1, e2] at ho
    clear e1 e2 e3 hv
    go_enter Try.func49, Try.ntmps49
    go_wp2_with fail
    refine (ho _).out.mono ?_
    rintro e w1 ⟨rfl, hB1⟩
    go_wp2
    go_ret2
    exact ⟨none, 0, rfl, Own.nilv _ _ _ _, hB1.alloc hB1.size _⟩
theorem mix_any (B : Option Addr) (n d : Nat) (xs : List Int) (w : World) (hx : Rd .u8 w B n d xs) : Calls Try.prog 29 #[.slice B n d] w fun e w' => ∃ A l, e = .returned (.tuple #[.slice A l l, .int .i64 (permE n)]) ∧ Own .u8 5 w' w.heap.size A l l (mixR xs) ∧ Below w.heap.size w w' := by
  have hx1 := Rdv.alloc hx (.cells #[.slice B n d] 22)
  have hbd := hx.bd.1
  go_enter Try.func29, Try.ntmps29
  go_wp2_with fail
  refine (madeb_any n B d w.heap.size xs _ hx1 (by simp [go_sem]) (by simp)).mono ?_
  rintro e w1 ⟨A, l, rfl, hO, hB⟩
  go_wp2
  go_ret2
  exact ⟨A, l, rfl, Ownv.mono hO (by simp), ((Below.refl _ w).alloc (Nat.le_refl _) _).trans (hB.mono (by simp))⟩
end Go.Proofs.Ytkagdiejpcfggaa
