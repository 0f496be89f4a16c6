/-
  Proves Rows.CrcResidueSaid: called with any arguments the Go function userplanelaw03.CrcResidue returns true and leaves its arguments as they were. Conditions: none.
-/
import Derived.Test.YthajakigiffleaaRows
import Derived.Test.YthajakigiffleaaQ
import Derived.WalkKit
import Derived.ProofKit
import Derived.OpenShut
import Derived.ShutString
import Derived.ChangeOld
import Derived.Below
namespace Go.Proofs.Ythajakigiffleaa.crcResidue
open Go.ChangeShapes Go.WideShapes Go.ChangeAt Go.RowKit
open Go.ChangeMaps (open_string shut_string)
set_option linter.unusedVariables false

theorem own : ownKnob Try.prog.godebug = none := by kernel_rfl
theorem laidOut : laidOutB Try.prog = true := by kernel_rfl

def IsRow (k : IntKind) (w : World) (a : Option Addr) (len cap : Nat) (zs : List Int) : Prop :=
  (a = none ∧ len = 0 ∧ cap = 0 ∧ zs = []) ∨
  ∃ x, a = some x ∧ len ≤ cap ∧ cap ≤ maxLen ∧ zs.length = cap ∧ (∀ i, i < zs.length → w.cell? (x.add i) = some (.int k (zs.getD i 0))) ∧ ∀ n ∈ zs, (Lit.int k n).wf = true

theorem walk (a0 : Int) (a1 : Option Addr) (len1 cap1 : Nat) (z1 : List Int) (a2 : Int) (w : World) (w0 : (Lit.int .i64 a0).wf = true) (w1 : IsRow .u8 w a1 len1 cap1 z1) (w2 : (Lit.int .i64 a2).wf = true) :
    Calls Try.prog 7 #[.int .i64 a0, .slice a1 len1 cap1, .int .i64 a2] w fun e w' => e = .returned (.bool true) ∧ Below w.heap.size w w' := by
  obtain ⟨hx, hwf⟩ := rd_of_row w1
  generalize z1.take len1 = xs at *
  clear w1
  have hbd := hx.bd.1
  by_cases h2 : 2000 < len1
  · go_enter Try.func7, Try.ntmps7
    go_wp2_with (go_at_call 11; refine (known_any _).mono ?_; rintro e w' ⟨rfl, hB⟩)
    go_ret
    exact ⟨rfl, hB⟩
  by_cases hz1 : a2 < 0
  · go_enter Try.func7, Try.ntmps7
    go_wp2_with (go_at_call 11; refine (known_any _).mono ?_; rintro e w' ⟨rfl, hB⟩)
    go_ret
    exact ⟨rfl, hB⟩
  by_cases hz2 : 100 < a2
  · go_enter Try.func7, Try.ntmps7
    go_wp2_with (go_at_call 11; refine (known_any _).mono ?_; rintro e w' ⟨rfl, hB⟩)
    go_ret
    exact ⟨rfl, hB⟩
  obtain ⟨z, rfl⟩ : ∃ z : Nat, a2 = (z : Int) := ⟨a2.toNat, by omega⟩
  have h0 : ∀ x ∈ xs, 0 ≤ x := fun x hxm => (bounds_u8 (hwf x hxm)).1
  have hxl := Lib.hid hx.len
  have c1 := Lib.hid (attach_any a0 a1 len1 cap1 xs w hx (by omega))
  by_cases hE : cErr a0 xs = 0
  · obtain ⟨hk, hv⟩ := cErr_zero hE
    have hbit := bit_of h0 hv
    have hres : aRes a0 xs = xs ++ crcSum a0 xs := by unfold aRes; rw [if_neg hk, if_pos hv]
    have bS := bit_sum hk hbit
    have hsl := crcSum_len a0 xs
    have e1 : cErr a0 (xs ++ crcSum a0 xs) = 0 := cErr_of hk (bit_valid (bit_app hbit bS))
    have r1 : cRes a0 (xs ++ crcSum a0 xs) = List.replicate (sLen a0) 0 := by rw [cRes_of hk (bit_valid (bit_app hbit bS)), residue hk hbit]
    have e3 : cErr a0 (List.replicate z 0 ++ xs) = 0 := cErr_of hk (bit_valid (bit_app (bit_zeros z) hbit))
    have r3 : cRes a0 (List.replicate z 0 ++ xs) = crcSum a0 xs := by rw [cRes_of hk (bit_valid (bit_app (bit_zeros z) hbit)), leading hk hbit]
    rw [hE, hres] at c1
    have c2 := fun A n c W (hW : Rd .u8 W A n c (xs ++ crcSum a0 xs)) => Lib.hid (compute_any a0 A n c _ W hW)
    rw [e1, r1] at c2
    have c3 := fun A n c W (hW : Rd .u8 W A n c xs) => Lib.hid (compute_any a0 A n c _ W hW)
    rw [hE, cRes_of hk hv] at c3
    have c4 := fun A n c W (hW : Rd .u8 W A n c (List.replicate z 0 ++ xs)) => Lib.hid (compute_any a0 A n c _ W hW)
    rw [e3, r3] at c4
    have c5 := fun W => Lib.hid (len_any a0 W)
    have hS := sLen_cases a0
    have HSL := Lib.hid hsl
    clear hE hres e1 r1 e3 r3 hsl hk hv hbit bS
    generalize crcSum a0 xs = S at *
    generalize sLen a0 = L at *
    go_enter Try.func7, Try.ntmps7
    go_wp2_with fail
    refine c1.out.mono ?_
    rintro e w1 ⟨A1, n1, c1', rfl, hO1, hB1⟩
    go_wp2_with fail
    refine (c2 _ _ _ _ (Own.rd hO1)).out.mono ?_
    rintro e w2 ⟨A2, n2, c2', rfl, hO2, hB2⟩
    have hn2 := (Own.rd hO2).len
    rw [List.length_replicate] at hn2
    subst hn2
    have x2 := Rdv.below (Rdv.below hx hB1) hB2
    go_wp2_with fail
    refine (c3 _ _ _ _ x2).out.mono ?_
    rintro e w3 ⟨A3, n3, c3', rfl, hO3, hB3⟩
    have x3 := Rdv.below x2 hB3
    go_wp2_with (first
      | (at_make; refine list_of rfl fun K hK => wp_mk (n := z) _ _ 23 rfl el23 rfl rfl (by omega) (by unfold maxLen; omega) ?_; intro Am wm hOm hBm hA; refine hK _ _ ?_; clear hK K)
      | (at_builtin; refine list_of rfl fun K hK => wp_app _ _ 23 rfl el23 rfl rfl hOm (Rdv.below x3 hBm) (oneCell_ints .u8 xs) (by omega) (by unfold maxLen; omega) hBm.size ?_; intro Ap cp wp hOp hg; refine hK _ _ ?_; clear hK K))
    have hBp : Below w3.heap.size w3 wp := hBm.grown hg hBm.size (fun k hk => Ownv.ob' hOm hk)
    have hOp' : Own .u8 5 wp w3.heap.size Ap (z + len1) cp (List.replicate z 0 ++ xs) := Own.of_eq hOp rfl (by simp)
    refine (c4 _ _ _ _ (Own.rd hOp')).out.mono ?_
    rintro e w4 ⟨A4, n4, c4', rfl, hO4, hB4⟩
    have hB34 := bnext hBp hB4
    go_wp2_with fail
    refine (c5 _).out.mono ?_
    rintro e w5 ⟨rfl, hB5⟩
    go_wp2_with (at_make; refine list_ofg (by first | rfl | kernel_rfl | simp [go_sem]) fun K hK => wp_mk (n := L) _ _ 23 rfl el23 rfl rfl (by omega) (by unfold maxLen; omega) ?_; intro A6 w6 hO6 hB6 hA6; refine hK _ _ ?_; clear hK K)
    have hO6' : Own .u8 5 w6 w5.heap.size A6 L L (List.replicate L 0) := Own.of_eq hO6 rfl (by simp)
    have y6 := Rdv.below (Rdv.below (Rdv.below (Rdv.below (Own.rd hO2) hB3) hB34) hB5) hB6
    refine (same_true _ _ _ _ _ _ _ _ y6 (Own.rd hO6')).mono ?_
    rintro e w7 ⟨rfl, hB7⟩
    have s7 := Rdv.below (Rdv.below (Rdv.below (Rdv.below (Own.rd hO3) hB34) hB5) hB6) hB7
    have t7 := Rdv.below (Rdv.below (Rdv.below (Own.rd hO4) hB5) hB6) hB7
    have hn3 := Rd.len s7
    have hn4 := Rd.len t7
    rw [hn3] at hn4
    subst hn4
    go_wp2_with fail
    refine (same_true _ _ _ _ _ _ _ _ s7 t7).mono ?_
    rintro e w8 ⟨rfl, hB8⟩
    go_wp2_with fail
    refine (known_any _).mono ?_
    rintro e w9 ⟨rfl, hB9⟩
    go_wp2
    go_ret
    exact ⟨rfl, bnext (bnext (bnext (bnext (bnext (bnext (bnext (bnext hB1 hB2) hB3) hB34) hB5) hB6) hB7) hB8) hB9⟩
  · have hne := bne_t hE
    generalize cErr a0 xs = E at *
    go_enter Try.func7, Try.ntmps7
    go_wp2_with fail
    refine c1.out.mono ?_
    rintro e w1 ⟨A1, n1, c1', rfl, hO1, hB1⟩
    go_wp2_with fail
    refine (known_any _).mono ?_
    rintro e w6 ⟨rfl, hB6⟩
    go_wp2
    go_ret
    exact ⟨rfl, bnext hB1 hB6⟩

set_option maxRecDepth 100000 in
theorem lifted (os : Os) (started : os.Started) (H : Type) (enc : TypeId × Value → H) :
    ReturnsInHanded {} Try.checked os 7 .any (Rows.crcResidueSpec.pre6 enc Try.prog Try.f7 Rows.crcResidueRow.domain false) (Rows.crcResidueSpec.post enc Try.prog Try.f7 false true false false) := by
  refine returnsInHanded_of_change (C := Try.checked) own started (by kernel_rfl) Try.func7
    (ChangeSpec.witness6 (enc := enc) (C := Try.checked) false ⟨#[], #[.int .i64 0, .slice none 0 0, .int .i64 0], []⟩ 8 (by kernel_rfl) (by kernel_rfl) (by kernel_rfl) (by kernel_rfl)) ?_
  intro W base args ds gs before hval0 hW hcnd _
  have hval : ∀ (j : Nat) t v, Try.f7.params[j]? = some t → args[j]? = some v → Value.okWide Try.prog W .any base t v := hval0
  have hW' := hW
  obtain ⟨p, q, hA0, hV, rfl, hfz, hnd⟩ := hW
  have hA : DataW.TrodAll enc Try.prog W 0 (fun _ => true) true Try.f7.params.toList args.toList ds p := hA0
  rw [Try.params7] at hA hval
  obtain ⟨v0, vs0, d0, ds0, p0, q0, hargs, rfl, rfl, h0, r0⟩ := trodAll_cons hA
  obtain ⟨v1, vs1, d1, ds1, p1, q1, rfl, rfl, rfl, h1, r1⟩ := trodAll_cons r0
  obtain ⟨v2, vs2, d2, ds2, p2, q2, rfl, rfl, rfl, h2, r2⟩ := trodAll_cons r1
  obtain ⟨rfl, rfl, rfl⟩ := trodAll_nil r2
  obtain rfl : args = #[v0, v1, v2] := by cases args; simp_all
  obtain ⟨rfl, rfl⟩ := trodVars_none hV
  obtain ⟨a0, rfl, rfl, rfl, w0⟩ := open_int Try.underlying22 (hval 0 22 v0 rfl rfl) h0
  obtain ⟨a1, len1, cap1, rfl⟩ := okWide_slice Try.underlying23 (hval 1 23 v1 rfl rfl)
  have k1 := h1
  have lt1 : ∀ x ∈ p1, x.block < W.heap.size := by obtain ⟨m, hm⟩ := k1; exact DataW.trod_lt m _ _ _ hm
  obtain ⟨z1, w1⟩ : ∃ zs, IsRow .u8 W a1 len1 cap1 zs := by
    obtain ⟨fuel, hf⟩ := h1
    rcases open_ints Try.underlying23 Try.underlying5 (by kernel_rfl) hf with ⟨hcs, _⟩ | ⟨x, l, c, zs, hcs, _, hl, hm, hz, _, hcell, hwz⟩
    · simp [Value.cells] at hcs
      obtain ⟨rfl, rfl, rfl⟩ := hcs
      exact ⟨[], .inl ⟨rfl, rfl, rfl, rfl⟩⟩
    · simp [Value.cells] at hcs
      obtain ⟨rfl, rfl, rfl⟩ := hcs
      exact ⟨zs, .inr ⟨_, rfl, hl, hm, by simpa using hz, hcell, hwz⟩⟩
  obtain ⟨a2, rfl, rfl, rfl, w2⟩ := open_int Try.underlying3 (hval 2 3 v2 rfl rfl) h2
  clear hA0 hval0
  refine (walk a0 a1 len1 cap1 z1 a2 W w0 w1 w2).mono fun e W' ⟨he, bel⟩ => ?_
  subst he
  exact ⟨_, rfl, _, _, _, [], _, [], hW', trodAll_mk1 (shut_bool Try.underlying4 _), (trodAll_cons_mk (shut_int Try.underlying22 w0) (trodAll_cons_mk (Below.trod laidOut (by kernel_rfl) (of_decide_eq_true (by kernel_rfl)) k1 bel lt1) (trodAll_cons_mk (shut_int Try.underlying3 w2) trodAll_mk0))), rfl, bel.frame _, fun h => by cases h⟩

theorem over : Rows.crcResidueRow.holds Try.pinned (OpenSpec.ofChange Rows.crcResidueSpec) :=
  OpenClaim.holds_of_wide 7 Try.f7 rfl rfl rfl rfl rfl rfl rfl ⟨rfl, rfl, rfl, rfl, rfl⟩ rfl rfl rfl rfl rfl (by kernel_rfl) Try.func7 (by kernel_rfl)
    (of_decide_eq_true (by kernel_rfl)) (by unfold Func.isWrapper; first | (rw [if_pos (by decide +kernel)]; kernel_rfl) | (rw [if_neg (by decide +kernel)]; exact ⟨rfl, rfl⟩))
    (fun os started H enc _ => lifted os started H enc)

theorem proved : Rows.CrcResidueSaid := over
#print axioms proved
end Go.Proofs.Ythajakigiffleaa.crcResidue
