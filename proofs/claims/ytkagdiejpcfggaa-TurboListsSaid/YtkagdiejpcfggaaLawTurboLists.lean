/-
  Proves Rows.TurboListsSaid: called with any arguments the Go function userplanelaw08.TurboLists returns true and leaves its arguments as they were. Conditions: none.
-/
import Derived.Test.YtkagdiejpcfggaaRows
import Derived.Test.YtkagdiejpcfggaaZk
import Derived.WalkKit
import Derived.ProofKit
import Derived.OpenShut
import Derived.ShutString
namespace Go.Proofs.Ytkagdiejpcfggaa.turboLists
open Go.ChangeShapes Go.WideShapes Go.ChangeAt Go.RowKit
open Go.ChangeMaps (open_string shut_string)
set_option linter.unusedVariables false      -- a walk need not use every 'w<i>' (that an integer argument fits its kind)

theorem own : ownKnob Try.prog.godebug = none := by kernel_rfl

set_option maxRecDepth 100000 in
set_option maxHeartbeats 1600000 in
theorem walk (a0 : Int) (w0 : (Lit.int .u8 a0).wf = true) (w : World) :
    Calls Try.prog 6 #[.int .u8 a0] w fun e w' => e = .returned (.bool true) ∧ Below w.heap.size w w' := by
  obtain ⟨u, rfl, hu⟩ : ∃ u : Nat, a0 = (u : Int) ∧ u < 256 := by
    have := bounds_u8 w0
    exact ⟨a0.toNat, by omega, by omega⟩
  clear w0
  have hkb := szK_bd u
  have hwu : IntKind.i64.wrap (u : Int) = (u : Int) := IntWalk.i64_in _ (by omega)
  have hkk : (40 : Int) + 8 * ((u : Int) % 60) = (szK u : Int) := by unfold szK; omega
  have HV := Lib.hid (szK_valid u)
  generalize hkd : szK u = k at *
  have HKD := Lib.hid hkd
  obtain ⟨N, hN⟩ : ∃ N, N = 3 * (k + 4) := ⟨_, rfl⟩
  have hNN : (3 : Int) * ((k : Int) + 4) = (N : Int) := by omega
  have hNb : N ≤ 2000 := by omega
  have HN := Lib.hid hN
  clear hkd hN
  go_enter Try.func6, Try.ntmps6
  go_wp2_with (at_make; refine list_of rfl fun K hK => wp_mk (n := N) _ _ 33 rfl el33 rfl rfl (by omega) (by unfold maxLen; omega) ?_; intro M wm hOm hBm hM; refine hK _ _ ?_; clear hK K)
  have hst : LstInv w k N M (.int .i64 1) wm := ⟨1, List.replicate N 0, by omega, by omega, rfl, Own.of_eq hOm rfl (by simp), by intro t ht; rw [gi_eq _ _ (by simpa using ht)]; simp [cntC], hBm⟩
  clear hOm hBm
  go_loopw [5, 2] (fun i r wr => r = .bool false ∧ LstInv w k N M i wr) (fun i _ _ => 3 - (intOf i).toNat)
  case atStart => exact ⟨rfl, hst⟩
  case round =>
    obtain ⟨rfl, code, cs, hc1, hc3, rfl, hO, hq, hB⟩ := hrel
    clear hst
    have HO := Lib.hid hO
    have HQ := Lib.hid hq
    have HB := Lib.hid hB
    clear hO hq hB
    by_cases hlt : code ≤ 2
    · have h12 : code = 1 ∨ code = 2 := by omega
      go_wp2_with fail
      refine (lay_any k code _ HV.out h12).mono ?_
      rintro e w1 ⟨A, c, B, d, rfl, hA, hBo, hB1⟩
      have HLT := Lib.hid (Ownv.blk_ge HO.out (by omega)).2
      have HGA := Lib.hid (Ownv.blk_ge hA (by have := (Own.rd hA).le; omega)).1
      have HGB := Lib.hid (Ownv.blk_ge hBo (by have := (Own.rd hBo).le; omega)).1
      have hin : LstIn w wr k N code M A B c d (.int .i64 0) w1 := ⟨0, cs, by omega, rfl, Ownv.below HO.out hB1, fun t ht => by rw [HQ.out t ht]; simp, hA, hBo, HB.out.trans (hB1.mono HB.out.size)⟩
      clear hA hBo hB1 HO HQ HB
      go_wp2_with (go_at_call 14; refine (num_any _ _).mono ?_; rintro e w8 ⟨rfl, rfl⟩)
      go_loopw [9, 2] (fun i r wq => r = .bool false ∧ LstIn w wr k N code M A B c d i wq) (fun i _ _ => k + 3 - (intOf i).toNat)
      case atStart => exact ⟨rfl, hin⟩
      case round =>
        obtain ⟨rfl, j, cs2, hj, rfl, hO, hq, hA, hBo, hB⟩ := hrel
        clear hin
        by_cases hlj : j < k + 3
        · obtain ⟨s0, s1, s2⟩ := sys_bd k code u j HKD.out.symm h12 hlj
          obtain ⟨q0, q1⟩ := par_bd k code j h12 hlj
          have hix1 := fun W => Rdv.ix (Own.rd hA) el33 hlj .i64 W
          have hix2 := fun W => Rdv.ix (Own.rd hBo) el33 hlj .i64 W
          have hc1 := Rd.cell (Own.rd hA) hlj
          have hc2 := Rd.cell (Own.rd hBo) hlj
          obtain ⟨p, hp⟩ : ∃ p : Nat, gi (sysL k code) j = (p : Int) := ⟨(gi (sysL k code) j).toNat, by omega⟩
          obtain ⟨q, hqq⟩ : ∃ q : Nat, gi (parI k code) j = (q : Int) := ⟨(gi (parI k code) j).toNat, by omega⟩
          rw [← HN.out, hp] at s1
          rw [← HN.out, hqq] at q1
          rw [hp] at hc1 s2
          rw [hqq] at hc2
          have hpN : p < N := by omega
          have hqN : q < N := by omega
          have HSTEP := Lib.hid (cnt_step (cntC k code) cs2 _ _ N j p q (Own.rd hO).len hpN hqN hp hqq (by rw [sysL_len]; exact hlj) (by rw [parI_len]; exact hlj) hq)
          have hb1 := cnt_bd k code j p
          have hb2 := cnt_bd k code j q
          have ht1 := hq p hpN
          have ht2 := hq q hqN
          obtain ⟨g, hg⟩ : ∃ g : Nat, gi cs2 p = (g : Int) ∧ g ≤ 4000 := ⟨_, ht1, by omega⟩
          obtain ⟨g', hg'⟩ : ∃ g' : Nat, gi (cs2.set p ((g : Int) + 1)) q = (g' : Int) ∧ g' ≤ 4001 := by
            rw [gi_set _ _ _ _ (by rw [(Own.rd hO).len]; exact hpN)]
            by_cases e : p = q
            · rw [if_pos e]; exact ⟨g + 1, by omega, by omega⟩
            · rw [if_neg e]; exact ⟨_, ht2, by omega⟩
          have hix3 := fun W => Rdv.ix (Own.rd hO) el33 hpN .i64 W
          have hc3 := Rd.cell (Own.rd hO) hpN
          rw [hg.1] at hc3
          have hfz := Ownv.frozen hO (by omega) p
          obtain ⟨o1, o2⟩ := Own.set_ hO hpN ((g : Int) + 1)
          have hix4 := fun W => Rdv.ix (Own.rd o1) el33 hqN .i64 W
          have hc4 := Rd.cell (Own.rd o1) hqN
          rw [hg'.1] at hc4
          have hfz2 := Ownv.frozen o1 (by omega) q
          obtain ⟨o3, o4⟩ := Own.set_ o1 hqN ((g' : Int) + 1)
          have hgp : w.heap.size ≤ blk M := (Ownv.blk_ge hO (by omega)).1
          have hc5 := Rd.cell (Own.rd (Ownv.grown hBo o2 (fun _ he => by have := Option.some.inj he; have := HLT.out; have := HGB.out; omega))) hlj
          rw [hqq] at hc5
          have HA2 := Lib.hid (Ownv.grown (Ownv.grown hA o2 (fun _ he => by have := Option.some.inj he; have := HLT.out; have := HGA.out; omega)) o4 (fun _ he => by have := Option.some.inj he; have := HLT.out; have := HGA.out; omega))
          have HB2 := Lib.hid (Ownv.grown (Ownv.grown hBo o2 (fun _ he => by have := Option.some.inj he; have := HLT.out; have := HGB.out; omega)) o4 (fun _ he => by have := Option.some.inj he; have := HLT.out; have := HGB.out; omega))
          have HBQ := Lib.hid ((hB.grown o2 hB.size (fun k hk => by have := Option.some.inj hk; omega)).grown o4 (hB.grown o2 hB.size (fun k hk => by have := Option.some.inj hk; omega)).size (fun k hk => by have := Option.some.inj hk; omega))
          have HO2 := Lib.hid o3
          rw [hg.1, hg'.1] at HSTEP
          have hg1 := hg.2
          have hg2 := hg'.2
          clear hg hg' o1 o2 o3 o4 hO hq hA hBo hB ht1 ht2 hb1 hb2 hp hqq hgp s0 q0 s1 q1
          by_cases hjk : j < k
          · have f5 : decide ((j : Int) < (k : Int)) = true := by simp; omega
            have hpk : p < k := by have := s2 hjk; omega
            clear s2
            go_wp2
            go_roundw
            case rel => exact ⟨rfl, j + 1, _, by omega, by go_num, HO2.out, HSTEP.out, HA2.out, HB2.out, HBQ.out⟩
            case measure => simp [intOf]; omega
          · have f5 : decide ((j : Int) < (k : Int)) = false := by simp; omega
            clear s2
            go_wp2
            go_roundw
            case rel => exact ⟨rfl, j + 1, _, by omega, by go_num, HO2.out, HSTEP.out, HA2.out, HB2.out, HBQ.out⟩
            case measure => simp [intOf]; omega
        · obtain rfl : j = k + 3 := by omega
          have HO2 := Lib.hid hO
          have HB2 := Lib.hid hB
          have HQ2 : Hid (∀ t, t < N → gi cs2 t = (cntC k (code + 1) t : Int)) := Lib.hid (fun t ht => by
            rw [hq t ht, List.take_of_length_le (by rw [sysL_len]; exact Nat.le_refl _), List.take_of_length_le (by rw [parI_len]; exact Nat.le_refl _), cntC_next k code t h12])
          clear hO hB hq hA hBo
          go_wp2
          go_roundw
          case rel => exact ⟨rfl, code + 1, cs2, by omega, by omega, by go_num, HO2.out, HQ2.out, HB2.out⟩
          case measure => simp [intOf]; omega
    · have HCODE := Lib.hid (show code = 3 by omega)
      have HQ3 := Lib.hid (fun t (ht : t < N) => (HQ.out t ht).trans (by rw [HCODE.out, cntC_end k u t HKD.out.symm (by rw [← HN.out]; exact ht)]))
      clear HQ
      go_wp2_with fail
      go_loopw [10, 2] (fun i r wq => r = .bool false ∧ ∃ t : Nat, t ≤ N ∧ i = .int .i64 t ∧ Below w.heap.size w wq ∧ Rd .i64 wq M N N cs) (fun i _ _ => N - (intOf i).toNat)
      case atStart => exact ⟨rfl, 0, by omega, rfl, HB.out, Own.rd HO.out⟩
      case round =>
        obtain ⟨rfl, t, ht, rfl, hB, hR⟩ := hrel
        have HRR := Lib.hid hR
        have HBB := Lib.hid hB
        clear HB HO
        by_cases hlt2 : t < N
        · have hix := fun W => Rdv.ix hR el33 hlt2 .i64 W
          have hcl := Rd.cell hR hlt2
          have e := HQ3.out t hlt2
          rw [e] at hcl
          clear hR hB e
          by_cases htk : t < k
          · rw [if_pos htk] at hcl
            go_wp2
            go_roundw
            case rel => exact ⟨rfl, t + 1, by omega, by go_num, HBB.out, HRR.out⟩
            case measure => simp [intOf]; omega
          · rw [if_neg htk] at hcl
            go_wp2
            go_roundw
            case rel => exact ⟨rfl, t + 1, by omega, by go_num, HBB.out, HRR.out⟩
            case measure => simp [intOf]; omega
        · obtain rfl : t = N := by omega
          clear hR hB
          go_wp2_with fail
          refine (works_any _).mono ?_
          rintro e w9 ⟨rfl, hB9⟩
          have HB9 := Lib.hid (bnext2 HBB.out hB9)
          clear hB9
          go_wp2
          go_ret
          exact ⟨rfl, HB9.out⟩

set_option maxRecDepth 100000 in
theorem lifted (os : Os) (started : os.Started) (H : Type) (enc : TypeId × Value → H) :
    ReturnsInHanded {} Try.checked os 6 .any (Rows.turboListsSpec.pre6 enc Try.prog Try.f6 Rows.turboListsRow.domain false) (Rows.turboListsSpec.post enc Try.prog Try.f6 false true false false) := by
  refine returnsInHanded_of_change (C := Try.checked) own started (by kernel_rfl) Try.func6
    (ChangeSpec.witness6 (enc := enc) (C := Try.checked) false ⟨#[], #[.int .u8 0], []⟩ 8 (by kernel_rfl) (by kernel_rfl) (by kernel_rfl) (by kernel_rfl)) ?_
  intro W base args ds gs before hval0 hW hcnd _
  have hval : ∀ (j : Nat) t v, Try.f6.params[j]? = some t → args[j]? = some v → Value.okWide Try.prog W .any base t v := hval0
  have hW' := hW
  obtain ⟨p, q, hA0, hV, rfl, hfz, hnd⟩ := hW
  have hA : DataW.TrodAll enc Try.prog W 0 (fun _ => true) true Try.f6.params.toList args.toList ds p := hA0
  rw [Try.params6] at hA hval
  obtain ⟨v0, vs0, d0, ds0, p0, q0, hargs, rfl, rfl, h0, r0⟩ := trodAll_cons hA
  obtain ⟨rfl, rfl, rfl⟩ := trodAll_nil r0
  obtain rfl : args = #[v0] := by cases args; simp_all
  obtain ⟨rfl, rfl⟩ := trodVars_none hV
  obtain ⟨a0, rfl, rfl, rfl, w0⟩ := open_int Try.underlying5 (hval 0 5 v0 rfl rfl) h0
  clear hA0 hval0
  simp only [List.append_nil] at hW'
  refine (walk a0 w0 W).mono fun e W' ⟨he, bel⟩ => ?_
  subst he
  exact ⟨_, rfl, _, _, _, [], _, [], hW', trodAll_mk1 (shut_bool Try.underlying4 _), (trodAll_cons_mk (shut_int Try.underlying5 w0) trodAll_mk0), rfl, bel.frame _, fun h => by cases h⟩

theorem over : Rows.turboListsRow.holds Try.pinned (OpenSpec.ofChange Rows.turboListsSpec) :=
  OpenClaim.holds_of_wide 6 Try.f6 rfl rfl rfl rfl rfl rfl rfl ⟨rfl, rfl, rfl, rfl, rfl⟩ rfl rfl rfl rfl rfl (by kernel_rfl) Try.func6 (by kernel_rfl)
    (of_decide_eq_true (by kernel_rfl)) (by unfold Func.isWrapper; first | (rw [if_pos (by decide +kernel)]; kernel_rfl) | (rw [if_neg (by decide +kernel)]; exact ⟨rfl, rfl⟩))
    (fun os started H enc _ => lifted os started H enc)

theorem proved : Rows.TurboListsSaid :=
  over
#print axioms proved
end Go.Proofs.Ytkagdiejpcfggaa.turboLists
