/-
  Proves Rows.CrcBackSaid: called with any arguments the Go function userplanelaw03.CrcBack returns true and leaves its arguments as they were. Conditions: none.
-/
import Derived.Test.YthajakigiffleaaRows
import Derived.Test.YthajakigiffleaaP
import Derived.WalkKit
import Derived.ProofKit
import Derived.OpenShut
import Derived.ShutString
import Derived.ChangeOld
import Derived.Below
namespace Go.Proofs.Ythajakigiffleaa.crcBack
open Go.ChangeShapes Go.WideShapes Go.ChangeAt Go.RowKit
open Go.ChangeMaps (open_string shut_string)
set_option linter.unusedVariables false

theorem own : ownKnob Try.prog.godebug = none := by kernel_rfl
theorem laidOut : laidOutB Try.prog = true := by kernel_rfl

def IsRow (k : IntKind) (w : World) (a : Option Addr) (len cap : Nat) (zs : List Int) : Prop :=
  (a = none ∧ len = 0 ∧ cap = 0 ∧ zs = []) ∨
  ∃ x, a = some x ∧ len ≤ cap ∧ cap ≤ maxLen ∧ zs.length = cap ∧ (∀ i, i < zs.length → w.cell? (x.add i) = some (.int k (zs.getD i 0))) ∧ ∀ n ∈ zs, (Lit.int k n).wf = true

theorem walk (a0 : Int) (a1 : Option Addr) (len1 cap1 : Nat) (z1 : List Int) (w : World) (w0 : (Lit.int .i64 a0).wf = true) (w1 : IsRow .u8 w a1 len1 cap1 z1) :
    Calls Try.prog 6 #[.int .i64 a0, .slice a1 len1 cap1] w fun e w' => e = .returned (.bool true) ∧ Below w.heap.size w w' := by
  obtain ⟨hx, hwf⟩ := rd_of_row w1
  generalize z1.take len1 = xs at *
  clear w1
  have hbd := hx.bd.1
  by_cases h2 : 2000 < len1
  · go_enter Try.func6, Try.ntmps6
    go_wp2_with (go_at_call 11; refine (known_any _).mono ?_; rintro e w' ⟨rfl, hB⟩)
    go_ret
    exact ⟨rfl, hB⟩
  · have h0 : ∀ x ∈ xs, 0 ≤ x := fun x hxm => (bounds_u8 (hwf x hxm)).1
    have hxl := Lib.hid hx.len
    have c1 := Lib.hid (attach_any a0 a1 len1 cap1 xs w hx (by omega))
    by_cases hE : cErr a0 xs = 0
    · obtain ⟨hk, hv⟩ := cErr_zero hE
      have hbit := bit_of h0 hv
      have hres : aRes a0 xs = xs ++ crcSum a0 xs := by unfold aRes; rw [if_neg hk, if_pos hv]
      obtain ⟨hb1, hb2⟩ := back hk hbit
      have hsl := crcSum_len a0 xs
      rw [hE, hres] at c1
      have c2 := fun A n c W (hW : Rd .u8 W A n c (xs ++ crcSum a0 xs)) (hn : n ≤ 100000) => Lib.hid (check_any a0 A n c _ W hW hn)
      rw [hb1, hb2] at c2
      have c4 := fun W => Lib.hid (len_any a0 W)
      have hS := sLen_cases a0
      have HSL := Lib.hid hsl
      clear hE hres hb1 hb2 hsl hk hv hbit
      generalize crcSum a0 xs = S at *
      generalize sLen a0 = L at *
      go_enter Try.func6, Try.ntmps6
      go_wp2_with fail
      refine c1.out.mono ?_
      rintro e w1 ⟨A1, n1, c1', rfl, hO1, hB1⟩
      have hn1 := (Own.rd hO1).len
      rw [List.length_append, HSL.out, hxl.out] at hn1
      subst hn1
      go_wp2_with fail
      refine (c2 _ _ _ _ (Own.rd hO1) (by omega)).out.mono ?_
      rintro e w2 ⟨A2, n2, c2', rfl, hO2, hB2⟩
      have x2 := Rdv.below (Rdv.below hx hB1) hB2
      have r2 := Rdv.below (Own.rd hO1) hB2
      have hslc := fun W => Rdv.slh r2 el23 .i64 (show len1 ≤ c1' by have := Rdv.le r2; omega) W
      go_wp2_with fail
      refine (same_true _ _ _ _ _ _ _ _ (Own.rd hO2) x2).mono ?_
      rintro e w3 ⟨rfl, hB3⟩
      go_wp2_with fail
      refine (c4 _).out.mono ?_
      rintro e w4 ⟨rfl, hB4⟩
      have x4 := Rdv.below (Rdv.below x2 hB3) hB4
      have r4 := Rdv.below (Rdv.below r2 hB3) hB4
      have r5 := Rd.upto r4 (m := len1) (by omega)
      rw [← hxl.out, List.take_left, hxl.out] at r5
      go_wp2_with fail
      refine (same_true _ _ _ _ _ _ _ _ r5 x4).mono ?_
      rintro e w5 ⟨rfl, hB5⟩
      go_wp2_with fail
      refine (known_any _).mono ?_
      rintro e w6 ⟨rfl, hB6⟩
      go_wp2
      go_ret
      exact ⟨rfl, bnext (bnext (bnext (bnext (bnext hB1 hB2) hB3) hB4) hB5) hB6⟩
    · have hres : aRes a0 xs = [] := by
        unfold aRes
        by_cases h1 : sLen a0 = 0
        · rw [if_pos h1]
        · rw [if_neg h1]
          by_cases hv : ValidB xs = true
          · exact absurd (cErr_of h1 hv) hE
          · rw [if_neg hv]
      rw [hres] at c1
      have hne := bne_t hE
      have c4 := fun W => Lib.hid (len_any a0 W)
      have hor : sLen a0 = 0 ∨ (sLen a0 ≠ 0 ∧ ValidB xs = false) := by
        by_cases h1 : sLen a0 = 0
        · exact .inl h1
        · refine .inr ⟨h1, ?_⟩
          by_cases hv : ValidB xs = true
          · exact absurd (cErr_of h1 hv) hE
          · simpa using hv
      clear hE hres
      generalize cErr a0 xs = E at *
      go_enter Try.func6, Try.ntmps6
      go_wp2_with fail
      refine c1.out.mono ?_
      rintro e w1 ⟨A1, n1, c1', rfl, hO1, hB1⟩
      have hn1 := (Own.rd hO1).len
      simp only [List.length_nil] at hn1
      subst hn1
      go_wp2_with fail
      refine (c4 _).out.mono ?_
      rintro e w2 ⟨rfl, hB2⟩
      rcases hor with h1 | ⟨h1, hv⟩
      · have hl0 : ((sLen a0 : Int) == 0) = true := beq_t (by omega)
        go_wp2_with fail
        refine (known_any _).mono ?_
        rintro e w6 ⟨rfl, hB6⟩
        go_wp2
        go_ret
        exact ⟨rfl, bnext (bnext hB1 hB2) hB6⟩
      · have hl0 : ((sLen a0 : Int) == 0) = false := beq_f (by omega)
        have x2 := Rdv.below (Rdv.below hx hB1) hB2
        go_wp2_with fail
        refine (valid_any a1 len1 cap1 xs _ x2).mono ?_
        rintro e w3 ⟨rfl, rfl⟩
        go_wp2_with fail
        refine (known_any _).mono ?_
        rintro e w6 ⟨rfl, hB6⟩
        go_wp2
        go_ret
        exact ⟨rfl, bnext (bnext hB1 hB2) hB6⟩

set_option maxRecDepth 100000 in
theorem lifted (os : Os) (started : os.Started) (H : Type) (enc : TypeId × Value → H) :
    ReturnsInHanded {} Try.checked os 6 .any (Rows.crcBackSpec.pre6 enc Try.prog Try.f6 Rows.crcBackRow.domain false) (Rows.crcBackSpec.post enc Try.prog Try.f6 false true false false) := by
  refine returnsInHanded_of_change (C := Try.checked) own started (by kernel_rfl) Try.func6
    (ChangeSpec.witness6 (enc := enc) (C := Try.checked) false ⟨#[], #[.int .i64 0, .slice none 0 0], []⟩ 8 (by kernel_rfl) (by kernel_rfl) (by kernel_rfl) (by kernel_rfl)) ?_
  intro W base args ds gs before hval0 hW hcnd _
  have hval : ∀ (j : Nat) t v, Try.f6.params[j]? = some t → args[j]? = some v → Value.okWide Try.prog W .any base t v := hval0
  have hW' := hW
  obtain ⟨p, q, hA0, hV, rfl, hfz, hnd⟩ := hW
  have hA : DataW.TrodAll enc Try.prog W 0 (fun _ => true) true Try.f6.params.toList args.toList ds p := hA0
  rw [Try.params6] at hA hval
  obtain ⟨v0, vs0, d0, ds0, p0, q0, hargs, rfl, rfl, h0, r0⟩ := trodAll_cons hA
  obtain ⟨v1, vs1, d1, ds1, p1, q1, rfl, rfl, rfl, h1, r1⟩ := trodAll_cons r0
  obtain ⟨rfl, rfl, rfl⟩ := trodAll_nil r1
  obtain rfl : args = #[v0, v1] := by cases args; simp_all
  obtain ⟨rfl, rfl⟩ := trodVars_none hV
  obtain ⟨a0, rfl, rfl, rfl, w0⟩ := open_int Try.underlying22 (hval 0 22 v0 rfl rfl) h0
  obtain ⟨a1, len1, cap1, rfl⟩ := okWide_slice Try.underlying23 (hval 1 23 v1 rfl rfl)
  have k1 := h1
  have lt1 : ∀ x ∈ p1, x.block < W.heap.size := by obtain ⟨m, hm⟩ := k1; exact DataW.trod_lt m _ _ _ hm
  obtain ⟨z1, w1⟩ : ∃ zs, IsRow .u8 W a1 len1 cap1 zs := by
    obtain ⟨fuel, hf⟩ := h1
    rcases open_ints Try.underlying23 Try.underlying5 (by kernel_rfl) hf with ⟨hcs, _⟩ | ⟨x, l, c, zs, hcs, _, hl, hm, hz, _, hcell, hwz⟩
    · simp [Value.cells] at hcs
      obtain ⟨rfl, rfl, rfl⟩ := hcs
      exact ⟨[], .inl ⟨rfl, rfl, rfl, rfl⟩⟩
    · simp [Value.cells] at hcs
      obtain ⟨rfl, rfl, rfl⟩ := hcs
      exact ⟨zs, .inr ⟨_, rfl, hl, hm, by simpa using hz, hcell, hwz⟩⟩
  clear hA0 hval0
  refine (walk a0 a1 len1 cap1 z1 W w0 w1).mono fun e W' ⟨he, bel⟩ => ?_
  subst he
  exact ⟨_, rfl, _, _, _, [], _, [], hW', trodAll_mk1 (shut_bool Try.underlying4 _), (trodAll_cons_mk (shut_int Try.underlying22 w0) (trodAll_cons_mk (Below.trod laidOut (by kernel_rfl) (of_decide_eq_true (by kernel_rfl)) k1 bel lt1) trodAll_mk0)), rfl, bel.frame _, fun h => by cases h⟩

theorem over : Rows.crcBackRow.holds Try.pinned (OpenSpec.ofChange Rows.crcBackSpec) :=
  OpenClaim.holds_of_wide 6 Try.f6 rfl rfl rfl rfl rfl rfl rfl ⟨rfl, rfl, rfl, rfl, rfl⟩ rfl rfl rfl rfl rfl (by kernel_rfl) Try.func6 (by kernel_rfl)
    (of_decide_eq_true (by kernel_rfl)) (by unfold Func.isWrapper; first | (rw [if_pos (by decide +kernel)]; kernel_rfl) | (rw [if_neg (by decide +kernel)]; exact ⟨rfl, rfl⟩))
    (fun os started H enc _ => lifted os started H enc)

theorem proved : Rows.CrcBackSaid := over
#print axioms proved
end Go.Proofs.Ythajakigiffleaa.crcBack
