/-
  Contracts of the reference's Params and Order: the same coefficients and the same permutation. Condition: none.
-/
import Derived.Test.YtkagdiejpcfggaaE
import Derived.OwnWalk
namespace Go.Proofs.Ytkagdiejpcfggaa
open Go.RowKit
set_option linter.unusedVariables false
def PrmInv (D : List Nat) (f2 k p : Value) : Prop :=
  ∃ (kk q : Nat) (acc : List Nat), f2 = .int .i64 (prodL acc : Int) ∧ k = .int .i64 kk ∧ p = .int .i64 q ∧ 1 ≤ kk ∧ kk ≤ 6144 ∧ 2 ≤ q ∧ q ≤ 102 ∧ dvs (102 - q) q kk acc = some D
def GInv (k F : Nat) (w : World) (f : Value) (wr : World) : Prop := ∃ (m g : Nat), f = .int .i64 g ∧ fndG m g k = some F ∧ Qt w wr
def prmR1 (k : Int) : Int := if validK k = true then (f1N k.toNat : Int) else 0
def prmR2 (k : Int) : Int := if validK k = true then (f2N k.toNat : Int) else 0
set_option maxRecDepth 100000 in
set_option maxHeartbeats 1000000 in
theorem params_any (k : Int) (w : World) : Calls Try.prog 52 #[.int .i64 k] w fun e w' => e = .returned (.tuple #[.int .i64 (prmR1 k), .int .i64 (prmR2 k), .int .i64 (permE k)]) ∧ Qt w w' := by
  by_cases hv : validK k = true
  · obtain ⟨kb0, kb1⟩ := valid_bd hv
    obtain ⟨n, rfl⟩ : ∃ n : Nat, k = (n : Int) := ⟨k.toNat, by omega⟩
    have hP := prm hv
    have e1 : prmR1 (n : Int) = (f1N n : Int) := by unfold prmR1; rw [if_pos hv, Int.toNat_natCast]
    have e2 : prmR2 (n : Int) = (f2N n : Int) := by unfold prmR2; rw [if_pos hv, Int.toNat_natCast]
    have e3 : permE (n : Int) = 0 := by unfold permE; rw [if_pos hv]
    rw [e1, e2, e3]
    clear e1 e2 e3
    have hf2 : f2N n = prodL (dvL n) := rfl
    obtain ⟨-, -, pd, -, pg, pl, pb1, pb2, pp⟩ := hP
    rw [hf2] at pb2 ⊢
    have hbd : ∀ f p k acc, dvs f p k acc = some (dvL n) → prodL acc ≤ 6144 := fun f p k acc h => by
      obtain ⟨t, ht⟩ := dvs_pre f p k acc _ h
      have := prodL_le (a := acc) (t := t) (by rw [← ht]; exact pp)
      rw [← ht] at this
      omega
    have HBD := Lib.hid hbd
    have HG := Lib.hid pg
    have HD := Lib.hid pd
    clear pp pg pd hf2 hbd pb2 pl
    generalize dvL n = D at *
    generalize f1N n = F at *
    go_enter Try.func52, Try.ntmps52
    go_wp2_with fail
    refine (rvalid_any _ _).mono ?_
    rintro e w1 ⟨rfl, rfl⟩
    rw [hv]
    clear hv
    go_wp2
    go_loop [5, 6, 7] (fun f2 kv pv => PrmInv D f2 kv pv) (fun _ _ pv => 102 - (intOf pv).toNat)
    case atStart => exact ⟨n, 2, [], rfl, rfl, rfl, by omega, by omega, by omega, by omega, HD.out⟩
    case round =>
      obtain ⟨kk, q, acc, rfl, rfl, rfl, h1, h2, hq2, hq102, hd⟩ := hrel
      by_cases hk1 : 1 < kk
      · obtain ⟨f', k2, hf, hs, hd'⟩ := dvs_step hd hk1
        obtain rfl : f' = 102 - (q + 1) := by omega
        have HS := Lib.hid hs
        have ht : (kk : Int).tmod (q : Int) = ((kk % q : Nat) : Int) := rfl
        have hm : (kk : Int) % (q : Int) = ((kk % q : Nat) : Int) := rfl
        have hfq : q < 102 := by omega
        clear hd hs hf
        by_cases h0 : kk % q = 0
        · rw [if_pos h0] at hd'
          rw [h0] at ht hm
          have hpb := HBD.out _ _ _ _ hd'
          obtain ⟨P, hPP⟩ : ∃ P, prodL (acc ++ [q]) = P := ⟨_, rfl⟩
          have em : (prodL acc : Int) * (q : Int) = (P : Int) := by
            rw [← hPP, prodL_app, ← Int.natCast_mul]; simp [prodL]
          rw [hPP] at hpb
          have HPP := Lib.hid hPP
          have HD' := Lib.hid hd'
          clear hd' h0 hPP
          generalize hpa : prodL acc = pa at *
          have HPA := Lib.hid hpa
          clear hpa
          go_wp2
          go_loop [6] (fun x => StripInv q k2 x) (fun x => (intOf x).toNat)
          case atStart => exact ⟨14, kk, rfl, h1, h2, HS.out⟩
          case round =>
            obtain ⟨g, x, rfl, hx1, hx2, hxs⟩ := hrel
            have hxt : (x : Int).tmod (q : Int) = ((x % q : Nat) : Int) := rfl
            have hxm : (x : Int) % (q : Int) = ((x % q : Nat) : Int) := rfl
            have hxq : (x : Int).tdiv (q : Int) = ((x / q : Nat) : Int) := rfl
            have hxd : (x : Int) / (q : Int) = ((x / q : Nat) : Int) := rfl
            by_cases hx0 : x % q = 0
            · rw [hx0] at hxt hxm
              obtain ⟨g', rfl, hg⟩ := strip_step hxs hx0
              have hge : 1 ≤ x / q := by
                rcases Nat.eq_zero_or_pos (x / q) with e | e
                · have := Nat.div_add_mod x q; rw [e, hx0] at this; omega
                · exact e
              have hlt : x / q < x := Nat.div_lt_self hx1 hq2
              have HGS := Lib.hid hg
              clear hxs hg hx0
              generalize x / q = y at *
              go_wp2
              go_round
              case rel => exact ⟨g', y, by go_num, hge, by omega, HGS.out⟩
              case measure => simp [intOf]; omega
            · have hxe := strip_end hxs hx0
              subst hxe
              obtain ⟨m, hm', hmp⟩ : ∃ m : Nat, x % q = m ∧ m ≠ 0 := ⟨_, rfl, hx0⟩
              rw [hm'] at hxt hxm
              have hz : ((m : Int) == 0) = false := beq_f (by omega)
              clear hx0 hxs
              go_wp2
              go_round
              case rel => exact ⟨x, q + 1, _, by rw [HPP.out], rfl, by go_num, hx1, hx2, by omega, by omega, HD'.out⟩
              case measure => simp [intOf]; omega
        · rw [if_neg h0] at hd'
          obtain ⟨m0, hm0, hmp0⟩ : ∃ m : Nat, kk % q = m ∧ m ≠ 0 := ⟨_, rfl, h0⟩
          rw [hm0] at ht hm
          have hz0 : ((m0 : Int) == 0) = false := beq_f (by omega)
          have HD' := Lib.hid hd'
          clear hd' h0 hm0
          generalize hpa : prodL acc = pa at *
          have HPA := Lib.hid hpa
          clear hpa
          go_wp2
          go_loop [6] (fun x => StripInv q k2 x) (fun x => (intOf x).toNat)
          case atStart => exact ⟨14, kk, rfl, h1, h2, HS.out⟩
          case round =>
            obtain ⟨g, x, rfl, hx1, hx2, hxs⟩ := hrel
            have hxt : (x : Int).tmod (q : Int) = ((x % q : Nat) : Int) := rfl
            have hxm : (x : Int) % (q : Int) = ((x % q : Nat) : Int) := rfl
            have hxq : (x : Int).tdiv (q : Int) = ((x / q : Nat) : Int) := rfl
            have hxd : (x : Int) / (q : Int) = ((x / q : Nat) : Int) := rfl
            by_cases hx0 : x % q = 0
            · rw [hx0] at hxt hxm
              obtain ⟨g', rfl, hg⟩ := strip_step hxs hx0
              have hge : 1 ≤ x / q := by
                rcases Nat.eq_zero_or_pos (x / q) with e | e
                · have := Nat.div_add_mod x q; rw [e, hx0] at this; omega
                · exact e
              have hlt : x / q < x := Nat.div_lt_self hx1 hq2
              have HGS := Lib.hid hg
              clear hxs hg hx0
              generalize x / q = y at *
              go_wp2
              go_round
              case rel => exact ⟨g', y, by go_num, hge, by omega, HGS.out⟩
              case measure => simp [intOf]; omega
            · have hxe := strip_end hxs hx0
              subst hxe
              obtain ⟨m, hm', hmp⟩ : ∃ m : Nat, x % q = m ∧ m ≠ 0 := ⟨_, rfl, hx0⟩
              rw [hm'] at hxt hxm
              have hz : ((m : Int) == 0) = false := beq_f (by omega)
              clear hx0 hxs
              go_wp2
              go_round
              case rel => exact ⟨x, q + 1, _, by rw [HPA.out], rfl, by go_num, hx1, hx2, by omega, by omega, HD'.out⟩
              case measure => simp [intOf]; omega
      · have he := dvs_end hd (by omega)
        subst he
        clear hd
        generalize hpf : prodL acc = f2
        have HPF := Lib.hid hpf
        clear hpf
        go_wp2
        go_loopw [8] (fun f wr => GInv n F w f wr) (fun f _ => F + 2 - (intOf f).toNat)
        case atStart => exact ⟨50, 3, rfl, HG.out, Qt.refl _⟩
        case round =>
          obtain ⟨m, g, rfl, hg, hQ⟩ := hrel
          have hgF := fndG_le _ _ _ _ hg
          have HGG := Lib.hid hg
          clear hg
          go_wp2_with fail
          refine (common_any g n (by omega) (by omega) _).mono ?_
          rintro e w4 ⟨rfl, hQ4⟩
          have hQQ := hQ.trans hQ4
          clear hQ hQ4
          by_cases hc : 1 < Nat.gcd g n
          · obtain ⟨hle, m', hm'⟩ := fndG_step HGG.out hc
            have HM := Lib.hid hm'
            clear hm'
            generalize Nat.gcd g n = gg at *
            go_wp2
            go_roundw
            case rel => exact ⟨m', g + 2, by go_num, HM.out, hQQ⟩
            case measure => simp [intOf]; omega
          · obtain rfl := fndG_end HGG.out hc
            generalize Nat.gcd g n = gg at *
            go_wp2
            go_ret3
            refine ⟨?_, hQQ⟩
            rw [HPF.out]
            rfl
  · have e1 : prmR1 k = 0 := by unfold prmR1; rw [if_neg hv]
    have e2 : prmR2 k = 0 := by unfold prmR2; rw [if_neg hv]
    have e3 : permE k = 2 := by unfold permE; rw [if_neg hv]
    rw [e1, e2, e3]
    have hv' : validK k = false := by simpa using hv
    clear e1 e2 e3 hv
    go_enter Try.func52, Try.ntmps52
    go_wp2_with fail
    refine (rvalid_any _ _).mono ?_
    rintro e w1 ⟨rfl, rfl⟩
    rw [hv']
    go_wp2
    go_ret3
    exact ⟨rfl, Qt.refl _⟩
end Go.Proofs.Ytkagdiejpcfggaa
