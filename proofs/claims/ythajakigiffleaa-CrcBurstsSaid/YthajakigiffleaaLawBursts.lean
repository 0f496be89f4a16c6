/-
  Proves Rows.CrcBurstsSaid: called with any arguments the Go function userplanelaw03.CrcBursts returns true and leaves its arguments as they were. Conditions: none.
-/
import Derived.Test.YthajakigiffleaaRows
import Derived.Test.YthajakigiffleaaQ
import Derived.WalkKit
import Derived.ProofKit
import Derived.OpenShut
import Derived.ShutString
import Derived.ChangeOld
import Derived.Below
namespace Go.Proofs.Ythajakigiffleaa.crcBursts
open Go.ChangeShapes Go.WideShapes Go.ChangeAt Go.RowKit
open Go.ChangeMaps (open_string shut_string)
set_option linter.unusedVariables false

theorem own : ownKnob Try.prog.godebug = none := by kernel_rfl
theorem laidOut : laidOutB Try.prog = true := by kernel_rfl

def IsRow (k : IntKind) (w : World) (a : Option Addr) (len cap : Nat) (zs : List Int) : Prop :=
  (a = none ∧ len = 0 ∧ cap = 0 ∧ zs = []) ∨
  ∃ x, a = some x ∧ len ≤ cap ∧ cap ≤ maxLen ∧ zs.length = cap ∧ (∀ i, i < zs.length → w.cell? (x.add i) = some (.int k (zs.getD i 0))) ∧ ∀ n ∈ zs, (Lit.int k n).wf = true

theorem walk (a0 : Int) (a1 : Option Addr) (len1 cap1 : Nat) (z1 : List Int) (a2 : Int) (a3 : Int) (w : World) (w0 : (Lit.int .i64 a0).wf = true) (w1 : IsRow .u8 w a1 len1 cap1 z1) (w2 : (Lit.int .i64 a2).wf = true) (w3 : (Lit.int .u32 a3).wf = true) :
    Calls Try.prog 8 #[.int .i64 a0, .slice a1 len1 cap1, .int .i64 a2, .int .u32 a3] w fun e w' => e = .returned (.bool true) ∧ Below w.heap.size w w' := by
  obtain ⟨hx, hwf⟩ := rd_of_row w1
  generalize z1.take len1 = xs at *
  clear w1
  have hbd := hx.bd.1
  by_cases h2 : 2000 < len1
  · go_enter Try.func8, Try.ntmps8
    go_wp2_with (go_at_call 11; refine (known_any _).mono ?_; rintro e w' ⟨rfl, hB⟩)
    go_ret
    exact ⟨rfl, hB⟩
  have h0 : ∀ x ∈ xs, 0 ≤ x := fun x hxm => (bounds_u8 (hwf x hxm)).1
  have hxl := Lib.hid hx.len
  have c1 := Lib.hid (attach_any a0 a1 len1 cap1 xs w hx (by omega))
  by_cases hE : cErr a0 xs = 0
  · obtain ⟨hk, hv⟩ := cErr_zero hE
    have hbit := bit_of h0 hv
    have hres : aRes a0 xs = xs ++ crcSum a0 xs := by unfold aRes; rw [if_neg hk, if_pos hv]
    have bS := bit_sum hk hbit
    have hsl := crcSum_len a0 xs
    rw [hE, hres] at c1
    have c5 := fun W => Lib.hid (len_any a0 W)
    have hS := sLen_cases a0
    have hlen : (xs ++ crcSum a0 xs).length = len1 + sLen a0 := by rw [List.length_append, hsl, hxl.out]
    have hbr : ∀ i n cur, Flip (xs ++ crcSum a0 xs) i n cur → i < len1 + sLen a0 → n ≤ sLen a0 → chkErr a0 cur = 11 := fun i n cur hf hi hn => burst hk hbit hf (by rw [hxl.out]; exact hi) hn
    have bY : Bit (xs ++ crcSum a0 xs) := bit_app hbit bS
    have HK := Lib.hid hk
    have HL := Lib.hid hlen; have HBR := Lib.hid hbr; have HY := Lib.hid bY
    clear hE hres hsl hk hv hbit bS hlen hbr bY
    generalize xs ++ crcSum a0 xs = ys at *
    generalize sLen a0 = L at *
    go_enter Try.func8, Try.ntmps8
    go_wp2_with fail
    refine c1.out.mono ?_
    rintro e w1 ⟨A1, n1, c1', rfl, hO1, hB1⟩
    have hn1 := (Own.rd hO1).len
    rw [HL.out] at hn1
    subst hn1
    have hL8 : 8 ≤ L := by have := HK.out; omega
    obtain ⟨i, hi, hI⟩ := at_ix a2 len1 L (by omega) (by omega)
    have hix := fun W => Rdv.ix (Own.rd hO1) el23 hi .i64 W
    have hcell := Rd.cell (Own.rd hO1) hi
    have hfz := Ownv.frozen hO1 (by have := Rdv.le (Own.rd hO1); omega) i
    have hv01 := bit_gi HY.out i
    have hv0 : 0 ≤ gi ys i := by omega
    have hv1 : gi ys i ≤ 1 := by omega
    have HSET := Lib.hid (Own.set_ hO1 hi (1 - gi ys i))
    have HFL := Lib.hid (Flip.first (ys := ys) (i := i) (by rw [HL.out]; exact hi))
    have hBS : Below w.heap.size w (w1.setCell (adr A1 i) (.int .u8 (1 - gi ys i))) := hB1.grown HSET.out.2 hB1.size (fun k hk => by injection hk with hk; rw [← hk]; exact (Ownv.blk_ge hO1 (by have := Rdv.le (Own.rd hO1); omega)).1)
    clear hv01
    go_wp2_with fail
    have hz : ((len1 : Int) + (L : Int) == 0) = false := beq_f (by omega)
    simp only [hI, hz]
    clear hI hz
    go_loopw [12] (fun v wr => FlipInv w ys i L A1 (len1 + L) c1' v wr) (fun v _ => L - (intOf v).toNat)
    case atStart => exact ⟨1, by omega, by omega, rfl, _, HFL.out, HSET.out.1, hBS⟩
    case round =>
      clear hix hcell hfz hv0 hv1 HSET HFL hBS hO1 hB1
      obtain ⟨q, hq1, hqL, rfl, cur, hF, hO, hB⟩ := hrel
      go_wp2_with fail
      refine (c5 _).out.mono ?_
      rintro e w5 ⟨rfl, hB5⟩
      have hO5 := Ownv.below hO hB5
      have hBq := bnext hB hB5
      have HF := Lib.hid hF
      clear hO hB hB5 hF
      by_cases hq : q < L
      · by_cases ht : i + q < len1 + L
        · have ht' : (i : Int) + (q : Int) < (len1 : Int) + (L : Int) := by omega
          have hix := fun W => Rdv.ixI (Own.rd hO5) el23 ht .i64 ((i : Int) + (q : Int)) (by omega) W
          have hcell := Rd.cell (Own.rd hO5) ht
          have hfz := Ownv.frozen hO5 (by have := Rdv.le (Own.rd hO5); omega) (i + q)
          have hv01 := bit_gi (Flip.bit HF.out HY.out) (i + q)
          have hv0 : 0 ≤ gi cur (i + q) := by omega
          have hv1 : gi cur (i + q) ≤ 1 := by omega
          have HSET := Lib.hid (Own.set_ hO5 ht (1 - gi cur (i + q)))
          clear hv01
          go_wp2
          all_goals (
            go_roundw
            case rel => first
              | exact ⟨q + 1, by omega, by omega, by go_num, _, Flip.next HF.out hq1 (by rw [HL.out]; exact ht), HSET.out.1, hBq.grown HSET.out.2 hBq.size (fun k hk => by injection hk with hk; rw [← hk]; exact (Ownv.blk_ge hO5 (by have := Rdv.le (Own.rd hO5); omega)).1)⟩
              | exact ⟨q + 1, by omega, by omega, by go_num, _, Flip.same HF.out, hO5, hBq⟩
            case measure => simp [intOf]; omega)
        · have ht' : ¬ ((i : Int) + (q : Int) < (len1 : Int) + (L : Int)) := by omega
          go_wp2_with fail
          refine (check_any a0 _ _ _ _ _ (Own.rd hO5) (by omega)).mono ?_
          rintro e w6 ⟨A6, n6, c6, rfl, hO6, hB6⟩
          rw [HBR.out i q cur HF.out hi (by omega)]
          go_wp2_with fail
          refine (known_any _).mono ?_
          rintro e w7 ⟨rfl, hB7⟩
          go_wp2
          go_ret
          exact ⟨rfl, bnext (bnext hBq hB6) hB7⟩
      · go_wp2_with fail
        refine (check_any a0 _ _ _ _ _ (Own.rd hO5) (by omega)).mono ?_
        rintro e w6 ⟨A6, n6, c6, rfl, hO6, hB6⟩
        rw [HBR.out i q cur HF.out hi (by omega)]
        go_wp2_with fail
        refine (known_any _).mono ?_
        rintro e w7 ⟨rfl, hB7⟩
        go_wp2
        go_ret
        exact ⟨rfl, bnext (bnext hBq hB6) hB7⟩
  · have hne := bne_t hE
    generalize cErr a0 xs = E at *
    go_enter Try.func8, Try.ntmps8
    go_wp2_with fail
    refine c1.out.mono ?_
    rintro e w1 ⟨A1, n1, c1', rfl, hO1, hB1⟩
    go_wp2_with fail
    all_goals (
      refine (known_any _).mono ?_
      rintro e w6 ⟨rfl, hB6⟩
      go_wp2
      go_ret
      exact ⟨rfl, bnext hB1 hB6⟩)

set_option maxRecDepth 100000 in
theorem lifted (os : Os) (started : os.Started) (H : Type) (enc : TypeId × Value → H) :
    ReturnsInHanded {} Try.checked os 8 .any (Rows.crcBurstsSpec.pre6 enc Try.prog Try.f8 Rows.crcBurstsRow.domain false) (Rows.crcBurstsSpec.post enc Try.prog Try.f8 false true false false) := by
  refine returnsInHanded_of_change (C := Try.checked) own started (by kernel_rfl) Try.func8
    (ChangeSpec.witness6 (enc := enc) (C := Try.checked) false ⟨#[], #[.int .i64 0, .slice none 0 0, .int .i64 0, .int .u32 0], []⟩ 8 (by kernel_rfl) (by kernel_rfl) (by kernel_rfl) (by kernel_rfl)) ?_
  intro W base args ds gs before hval0 hW hcnd _
  have hval : ∀ (j : Nat) t v, Try.f8.params[j]? = some t → args[j]? = some v → Value.okWide Try.prog W .any base t v := hval0
  have hW' := hW
  obtain ⟨p, q, hA0, hV, rfl, hfz, hnd⟩ := hW
  have hA : DataW.TrodAll enc Try.prog W 0 (fun _ => true) true Try.f8.params.toList args.toList ds p := hA0
  rw [Try.params8] at hA hval
  obtain ⟨v0, vs0, d0, ds0, p0, q0, hargs, rfl, rfl, h0, r0⟩ := trodAll_cons hA
  obtain ⟨v1, vs1, d1, ds1, p1, q1, rfl, rfl, rfl, h1, r1⟩ := trodAll_cons r0
  obtain ⟨v2, vs2, d2, ds2, p2, q2, rfl, rfl, rfl, h2, r2⟩ := trodAll_cons r1
  obtain ⟨v3, vs3, d3, ds3, p3, q3, rfl, rfl, rfl, h3, r3⟩ := trodAll_cons r2
  obtain ⟨rfl, rfl, rfl⟩ := trodAll_nil r3
  obtain rfl : args = #[v0, v1, v2, v3] := by cases args; simp_all
  obtain ⟨rfl, rfl⟩ := trodVars_none hV
  obtain ⟨a0, rfl, rfl, rfl, w0⟩ := open_int Try.underlying22 (hval 0 22 v0 rfl rfl) h0
  obtain ⟨a1, len1, cap1, rfl⟩ := okWide_slice Try.underlying23 (hval 1 23 v1 rfl rfl)
  have k1 := h1
  have lt1 : ∀ x ∈ p1, x.block < W.heap.size := by obtain ⟨m, hm⟩ := k1; exact DataW.trod_lt m _ _ _ hm
  obtain ⟨z1, w1⟩ : ∃ zs, IsRow .u8 W a1 len1 cap1 zs := by
    obtain ⟨fuel, hf⟩ := h1
    rcases open_ints Try.underlying23 Try.underlying5 (by kernel_rfl) hf with ⟨hcs, _⟩ | ⟨x, l, c, zs, hcs, _, hl, hm, hz, _, hcell, hwz⟩
    · simp [Value.cells] at hcs
      obtain ⟨rfl, rfl, rfl⟩ := hcs
      exact ⟨[], .inl ⟨rfl, rfl, rfl, rfl⟩⟩
    · simp [Value.cells] at hcs
      obtain ⟨rfl, rfl, rfl⟩ := hcs
      exact ⟨zs, .inr ⟨_, rfl, hl, hm, by simpa using hz, hcell, hwz⟩⟩
  obtain ⟨a2, rfl, rfl, rfl, w2⟩ := open_int Try.underlying3 (hval 2 3 v2 rfl rfl) h2
  obtain ⟨a3, rfl, rfl, rfl, w3⟩ := open_int Try.underlying38 (hval 3 38 v3 rfl rfl) h3
  clear hA0 hval0
  refine (walk a0 a1 len1 cap1 z1 a2 a3 W w0 w1 w2 w3).mono fun e W' ⟨he, bel⟩ => ?_
  subst he
  exact ⟨_, rfl, _, _, _, [], _, [], hW', trodAll_mk1 (shut_bool Try.underlying4 _), (trodAll_cons_mk (shut_int Try.underlying22 w0) (trodAll_cons_mk (Below.trod laidOut (by kernel_rfl) (of_decide_eq_true (by kernel_rfl)) k1 bel lt1) (trodAll_cons_mk (shut_int Try.underlying3 w2) (trodAll_cons_mk (shut_int Try.underlying38 w3) trodAll_mk0)))), rfl, bel.frame _, fun h => by cases h⟩

theorem over : Rows.crcBurstsRow.holds Try.pinned (OpenSpec.ofChange Rows.crcBurstsSpec) :=
  OpenClaim.holds_of_wide 8 Try.f8 rfl rfl rfl rfl rfl rfl rfl ⟨rfl, rfl, rfl, rfl, rfl⟩ rfl rfl rfl rfl rfl (by kernel_rfl) Try.func8 (by kernel_rfl)
    (of_decide_eq_true (by kernel_rfl)) (by unfold Func.isWrapper; first | (rw [if_pos (by decide +kernel)]; kernel_rfl) | (rw [if_neg (by decide +kernel)]; exact ⟨rfl, rfl⟩))
    (fun os started H enc _ => lifted os started H enc)

theorem proved : Rows.CrcBurstsSaid := over
#print axioms proved
end Go.Proofs.Ythajakigiffleaa.crcBursts
