/-
  Proves Rows.CrcMasksSaid: called with any arguments the Go function userplanelaw03.CrcMasks returns true and leaves its arguments as they were. Conditions: none.
-/
import Derived.Test.YthajakigiffleaaRows
import Derived.Test.YthajakigiffleaaQ
import Derived.WalkKit
import Derived.ProofKit
import Derived.OpenShut
import Derived.ShutString
import Derived.ChangeOld
import Derived.Below
namespace Go.Proofs.Ythajakigiffleaa.crcMasks
open Go.ChangeShapes Go.WideShapes Go.ChangeAt Go.RowKit
open Go.ChangeMaps (open_string shut_string)
set_option linter.unusedVariables false

theorem own : ownKnob Try.prog.godebug = none := by kernel_rfl
theorem laidOut : laidOutB Try.prog = true := by kernel_rfl

def IsRow (k : IntKind) (w : World) (a : Option Addr) (len cap : Nat) (zs : List Int) : Prop :=
  (a = none ∧ len = 0 ∧ cap = 0 ∧ zs = []) ∨
  ∃ x, a = some x ∧ len ≤ cap ∧ cap ≤ maxLen ∧ zs.length = cap ∧ (∀ i, i < zs.length → w.cell? (x.add i) = some (.int k (zs.getD i 0))) ∧ ∀ n ∈ zs, (Lit.int k n).wf = true

set_option maxHeartbeats 800000 in
theorem walk (a0 : Option Addr) (len0 cap0 : Nat) (z0 : List Int) (a1 : Int) (w : World) (w0 : IsRow .u8 w a0 len0 cap0 z0) (w1 : (Lit.int .u16 a1).wf = true) :
    Calls Try.prog 9 #[.slice a0 len0 cap0, .int .u16 a1] w fun e w' => e = .returned (.bool true) ∧ Below w.heap.size w w' := by
  obtain ⟨hx, hwf⟩ := rd_of_row w0
  generalize z0.take len0 = xs at *
  clear w0
  have hbd := hx.bd.1
  have hd01 : 0 ≤ a1 ∧ a1 ≤ 65535 := by simpa [Lit.wf, IntKind.min, IntKind.max, IntKind.signed, IntKind.bits] using w1
  obtain ⟨d, rfl⟩ : ∃ d : Nat, a1 = (d : Int) := ⟨a1.toNat, by omega⟩
  have hd : d < 65536 := by omega
  by_cases h2 : 2000 < len0
  · go_enter Try.func9, Try.ntmps9
    go_wp2_with (go_at_call 11; refine (known_any _).mono ?_; rintro e w' ⟨rfl, hB⟩)
    go_ret
    exact ⟨rfl, hB⟩
  have h0 : ∀ x ∈ xs, 0 ≤ x := fun x hxm => (bounds_u8 (hwf x hxm)).1
  have hxl := hx.len
  have c1 := Lib.hid (mask_any a0 len0 cap0 xs d w hx (by omega) hd01.1 hd01.2)
  by_cases hv : ValidB xs = true
  · have hbit := bit_of h0 hv
    have hk : sLen 3 ≠ 0 := by decide
    have h16 : sLen 3 = 16 := by decide
    have hE : cErr 3 xs = 0 := cErr_of hk hv
    have hres : aRes 3 xs = xs ++ crcSum 3 xs := by unfold aRes; rw [if_neg hk, if_pos hv]
    have bS := bit_sum hk hbit
    have bY := bit_app hbit bS
    have hylen : (xs ++ crcSum 3 xs).length = len0 + 16 := by rw [List.length_append, crcSum_len, h16, hxl]
    have hmE : mErr (xs ++ crcSum 3 xs) = 0 := by unfold mErr; rw [if_pos (bit_valid bY), if_neg (by omega)]
    have hmR : mRes (xs ++ crcSum 3 xs) d = maskL (xs ++ crcSum 3 xs) d 16 := by unfold mRes; rw [if_pos (bit_valid bY), if_neg (by omega)]
    have hmlen := maskL_len (xs ++ crcSum 3 xs) d 16
    have hck := mask_check hd hbit
    have c2 := fun W (hW : Rd .u8 W a0 len0 cap0 xs) => Lib.hid (attach_any 3 a0 len0 cap0 xs W hW (by omega))
    rw [hE, hres] at c2
    have c3 := fun A n c W (hW : Rd .u8 W A n c (xs ++ crcSum 3 xs)) (hn : n ≤ 100000) => Lib.hid (mask_any A n c _ d W hW hn hd01.1 hd01.2)
    rw [hmE, hmR] at c3
    have c4 := fun A n c W (hW : Rd .u8 W A n c (maskL (xs ++ crcSum 3 xs) d 16)) (hn : n ≤ 100000) => Lib.hid (check_any 3 A n c _ W hW hn)
    rw [hck] at c4
    have c5 := fun A n c W (hW : Rd .u8 W A n c (maskL xs d 16)) (hn : n ≤ 100000) => Lib.hid (mask_any A n c _ d W hW hn hd01.1 hd01.2)
    have hms : 16 ≤ xs.length → mErr xs = 0 ∧ mRes xs d = maskL xs d 16 ∧ mErr (maskL xs d 16) = 0 ∧ mRes (maskL xs d 16) d = xs := fun hl => by
      have bm := bit_mask hd hbit hl
      have e1 : (maskL xs d 16).length = xs.length := maskL_len xs d 16
      unfold mErr mRes
      rw [if_pos hv, if_neg (by omega), if_pos hv, if_neg (by omega), if_pos (bit_valid bm), if_neg (by omega), if_pos (bit_valid bm), if_neg (by omega), mask_mask hd hbit hl]
      exact ⟨rfl, rfl, rfl, rfl⟩
    have hmsh : xs.length < 16 → mErr xs = 5 ∧ mRes xs d = [] := fun hl => by
      unfold mErr mRes
      rw [if_pos hv, if_pos hl, if_pos hv, if_pos hl]
      exact ⟨rfl, rfl⟩
    have HYL := Lib.hid hylen; have HML := Lib.hid hmlen; have HXL := Lib.hid hxl; have HMS := Lib.hid hms; have HMSH := Lib.hid hmsh
    clear hE hres bS bY hylen hmE hmR hmlen hck hms hmsh hbit hk h16 hxl
    generalize hY : xs ++ crcSum 3 xs = ys at *
    generalize hM : maskL ys d 16 = ms at *
    clear hY hM
    go_enter Try.func9, Try.ntmps9
    go_wp2_with fail
    refine c1.out.mono ?_
    rintro e w1 ⟨A1, n1, c1', rfl, hO1, hB1⟩
    have x1 := Rdv.below hx hB1
    go_wp2_with fail
    refine (valid_any a0 len0 cap0 xs _ x1).mono ?_
    rintro e w1' ⟨rfl, rfl⟩
    go_wp2_with fail
    refine (c2 _ x1).out.mono ?_
    rintro e w2 ⟨A2, n2, c2', rfl, hO2, hB2⟩
    have hn2 := (Own.rd hO2).len
    rw [HYL.out] at hn2
    subst hn2
    go_wp2_with fail
    refine (c3 _ _ _ _ (Own.rd hO2) (by omega)).out.mono ?_
    rintro e w3 ⟨A3, n3, c3', rfl, hO3, hB3⟩
    have hn3 := (Own.rd hO3).len
    rw [HML.out, HYL.out] at hn3
    subst hn3
    go_wp2_with fail
    refine (c4 _ _ _ _ (Own.rd hO3) (by omega)).out.mono ?_
    rintro e w4 ⟨A4, n4, c4', rfl, hO4, hB4⟩
    have x4 := Rdv.below (Rdv.below (Rdv.below x1 hB2) hB3) hB4
    have hB14 := bnext (bnext (bnext hB1 hB2) hB3) hB4
    by_cases hl : len0 < 16
    · obtain ⟨e1, e2⟩ := HMSH.out (by rw [HXL.out]; exact hl)
      rw [e2] at hO1
      have hn1 := (Own.rd hO1).len
      simp only [List.length_nil] at hn1
      subst hn1
      rw [e1]
      clear e1 e2
      rcases Nat.eq_zero_or_pos d with hd0 | hd0
      · have hz : ((d : Int) == 0) = true := beq_t (by omega)
        rw [if_pos (by omega)]
        go_wp2_with fail
        refine (known_any _).mono ?_
        rintro e w6 ⟨rfl, hB6⟩
        go_wp2
        go_ret
        exact ⟨rfl, bnext hB14 hB6⟩
      · have hz : ((d : Int) == 0) = false := beq_f (by omega)
        rw [if_neg (by omega)]
        go_wp2_with fail
        refine (known_any _).mono ?_
        rintro e w6 ⟨rfl, hB6⟩
        go_wp2
        go_ret
        exact ⟨rfl, bnext hB14 hB6⟩
    · obtain ⟨e1, e2, e3, e4⟩ := HMS.out (by rw [HXL.out]; omega)
      rw [e2] at hO1
      rw [e3, e4] at c5
      have hn1 := (Own.rd hO1).len
      rw [maskL_len, HXL.out] at hn1
      subst hn1
      rw [e1]
      have m4 := Rdv.below (Rdv.below (Rdv.below (Own.rd hO1) hB2) hB3) hB4
      clear e1 e2 e3 e4
      rcases Nat.eq_zero_or_pos d with hd0 | hd0
      · have hz : ((d : Int) == 0) = true := beq_t (by omega)
        rw [if_pos (by omega)]
        have hdz : (d : Int) = 0 := by omega
        rw [hdz] at c5 m4
        have HD := Lib.hid hdz; clear hd0 hdz
        go_wp2_with fail
        refine (own_any a0 len0 cap0 xs _ x4 (by omega)).mono ?_
        rintro e w5 ⟨A5, c5', rfl, hO5, hB5⟩
        go_wp2_with fail
        try simp only [hz]
        clear hz
        go_loopw [14] (fun v wr => MaskInvL w4 xs d A5 len0 c5' v wr) (fun v _ => 16 - (intOf v).toNat)
        case atStart => exact ⟨0, by omega, rfl, xs, MaskTo.first xs d, hO5, hB5⟩
        case round =>
          obtain ⟨j, hj, rfl, cur, hM, hO, hB⟩ := hrel
          by_cases hlt : j < 16
          · have hm1 : len0 - 1 - j < len0 := by omega
            have em : (len0 : Int) - 1 - (j : Int) = ((len0 - 1 - j : Nat) : Int) := by omega
            have hix := fun W => Rdv.ixI (Own.rd hO) el23 hm1 .i64 ((len0 : Int) - 1 - (j : Int)) em W
            have hcell := Rd.cell (Own.rd hO) hm1
            have hfz := Ownv.frozen hO (by have := Rdv.le (Own.rd hO); omega) (len0 - 1 - j)
            have HNX := MaskTo.next hM (show j < xs.length by rw [HXL.out]; omega)
            rw [HXL.out] at HNX
            have HNX := Lib.hid HNX
            have hw1 : IntKind.i64.wrap ((len0 : Int) - 1) = (len0 : Int) - 1 := IntWalk.i64_in _ (by omega)
            have hw2 : IntKind.i64.wrap ((len0 : Int) - 1 - (j : Int)) = (len0 : Int) - 1 - (j : Int) := IntWalk.i64_in _ (by omega)
            clear em hM
            go_wp2
            go_still_tail 21, (by kernel_rfl)
            simp only [World.drew_eq]
            go_wp2
            go_roundw
            case rel =>
              refine ⟨j + 1, by omega, by go_num, _, ?_, Ownv.drew (Own.set_ hO hm1 _).1, (hB.grown (Own.set_ hO hm1 _).2 hB.size (fun k hk => by injection hk with hk; rw [← hk]; exact (Ownv.blk_ge hO (by have := Rdv.le (Own.rd hO); omega)).1)).drew⟩
              show MaskTo xs d (j + 1) (cur.set (len0 - 1 - j) (xor8 (gi cur (len0 - 1 - j)) (bits .and .u16 0 1 % 256)))
              rw [mask_val0 d j HD.out]
              exact HNX.out
            case measure => simp [intOf]; omega
          · obtain rfl : j = 16 := by omega
            have hcur := MaskTo.all hM hd (by rw [HXL.out]; omega)
            rw [HD.out] at hcur
            subst hcur
            go_wp2_with fail
            refine (c5 _ _ _ _ (Rdv.below m4 hB) (by omega)).out.mono ?_
            rintro e w6 ⟨A6, n6, c6, rfl, hO6, hB6⟩
            have hn6 := (Own.rd hO6).len
            rw [HXL.out] at hn6
            subst hn6
            go_wp2_with fail
            refine (same_true _ _ _ _ _ _ _ _ (Rdv.below (Rdv.below m4 hB) hB6) (Rdv.below (Own.rd hO) hB6)).mono ?_
            rintro e w7 ⟨rfl, hB7⟩
            go_wp2_with fail
            refine (same_true _ _ _ _ _ _ _ _ (Rdv.below (Own.rd hO6) hB7) (Rdv.below (Rdv.below (Rdv.below x4 hB) hB6) hB7)).mono ?_
            rintro e w8 ⟨rfl, hB8⟩
            go_wp2_with fail
            refine (known_any _).mono ?_
            rintro e w9 ⟨rfl, hB9⟩
            go_wp2
            go_ret
            exact ⟨rfl, bnext (bnext (bnext (bnext (bnext hB14 hB) hB6) hB7) hB8) hB9⟩
      · have hz : ((d : Int) == 0) = false := beq_f (by omega)
        rw [if_neg (by omega)]
        go_wp2_with fail
        refine (own_any a0 len0 cap0 xs _ x4 (by omega)).mono ?_
        rintro e w5 ⟨A5, c5', rfl, hO5, hB5⟩
        go_wp2_with fail
        try simp only [hz]
        clear hz
        go_loopw [14] (fun v wr => MaskInvL w4 xs d A5 len0 c5' v wr) (fun v _ => 16 - (intOf v).toNat)
        case atStart => exact ⟨0, by omega, rfl, xs, MaskTo.first xs d, hO5, hB5⟩
        case round =>
          obtain ⟨j, hj, rfl, cur, hM, hO, hB⟩ := hrel
          by_cases hlt : j < 16
          · have hm1 : len0 - 1 - j < len0 := by omega
            have em : (len0 : Int) - 1 - (j : Int) = ((len0 - 1 - j : Nat) : Int) := by omega
            have hix := fun W => Rdv.ixI (Own.rd hO) el23 hm1 .i64 ((len0 : Int) - 1 - (j : Int)) em W
            have hcell := Rd.cell (Own.rd hO) hm1
            have hfz := Ownv.frozen hO (by have := Rdv.le (Own.rd hO); omega) (len0 - 1 - j)
            have HNX := MaskTo.next hM (show j < xs.length by rw [HXL.out]; omega)
            rw [HXL.out] at HNX
            have HNX := Lib.hid HNX
            have hw1 : IntKind.i64.wrap ((len0 : Int) - 1) = (len0 : Int) - 1 := IntWalk.i64_in _ (by omega)
            have hw2 : IntKind.i64.wrap ((len0 : Int) - 1 - (j : Int)) = (len0 : Int) - 1 - (j : Int) := IntWalk.i64_in _ (by omega)
            clear em hM
            go_wp2
            go_still_tail 21, (by kernel_rfl)
            simp only [World.drew_eq]
            go_wp2
            go_roundw
            case rel =>
              refine ⟨j + 1, by omega, by go_num, _, ?_, Ownv.drew (Own.set_ hO hm1 _).1, (hB.grown (Own.set_ hO hm1 _).2 hB.size (fun k hk => by injection hk with hk; rw [← hk]; exact (Ownv.blk_ge hO (by have := Rdv.le (Own.rd hO); omega)).1)).drew⟩
              show MaskTo xs d (j + 1) (cur.set (len0 - 1 - j) (xor8 (gi cur (len0 - 1 - j)) (bits .and .u16 ((d : Int) / 2 ^ j) 1 % 256)))
              rw [mask_val d j hd]
              exact HNX.out
            case measure => simp [intOf]; omega
          · obtain rfl : j = 16 := by omega
            obtain rfl := MaskTo.all hM hd (by rw [HXL.out]; omega)
            go_wp2_with fail
            refine (c5 _ _ _ _ (Rdv.below m4 hB) (by omega)).out.mono ?_
            rintro e w6 ⟨A6, n6, c6, rfl, hO6, hB6⟩
            have hn6 := (Own.rd hO6).len
            rw [HXL.out] at hn6
            subst hn6
            go_wp2_with fail
            refine (same_true _ _ _ _ _ _ _ _ (Rdv.below (Rdv.below m4 hB) hB6) (Rdv.below (Own.rd hO) hB6)).mono ?_
            rintro e w7 ⟨rfl, hB7⟩
            go_wp2_with fail
            refine (same_true _ _ _ _ _ _ _ _ (Rdv.below (Own.rd hO6) hB7) (Rdv.below (Rdv.below (Rdv.below x4 hB) hB6) hB7)).mono ?_
            rintro e w8 ⟨rfl, hB8⟩
            go_wp2_with fail
            refine (known_any _).mono ?_
            rintro e w9 ⟨rfl, hB9⟩
            go_wp2
            go_ret
            exact ⟨rfl, bnext (bnext (bnext (bnext (bnext hB14 hB) hB6) hB7) hB8) hB9⟩
  · have hmE : mErr xs = 3 := by unfold mErr; rw [if_neg hv]
    have hmR : mRes xs d = [] := by unfold mRes; rw [if_neg hv]
    have hv' : ValidB xs = false := by simpa using hv
    rw [hmE, hmR] at c1
    clear hmE hmR hxl
    go_enter Try.func9, Try.ntmps9
    go_wp2_with fail
    refine c1.out.mono ?_
    rintro e w1 ⟨A1, n1, c1', rfl, hO1, hB1⟩
    have hn1 := (Own.rd hO1).len
    simp only [List.length_nil] at hn1
    subst hn1
    go_wp2_with fail
    refine (valid_any a0 len0 cap0 xs _ (Rdv.below hx hB1)).mono ?_
    rintro e w3 ⟨rfl, rfl⟩
    go_wp2_with fail
    refine (known_any _).mono ?_
    rintro e w6 ⟨rfl, hB6⟩
    go_wp2
    go_ret
    exact ⟨rfl, bnext hB1 hB6⟩

set_option maxRecDepth 100000 in
theorem lifted (os : Os) (started : os.Started) (H : Type) (enc : TypeId × Value → H) :
    ReturnsInHanded {} Try.checked os 9 .any (Rows.crcMasksSpec.pre6 enc Try.prog Try.f9 Rows.crcMasksRow.domain false) (Rows.crcMasksSpec.post enc Try.prog Try.f9 false true false false) := by
  refine returnsInHanded_of_change (C := Try.checked) own started (by kernel_rfl) Try.func9
    (ChangeSpec.witness6 (enc := enc) (C := Try.checked) false ⟨#[], #[.slice none 0 0, .int .u16 0], []⟩ 8 (by kernel_rfl) (by kernel_rfl) (by kernel_rfl) (by kernel_rfl)) ?_
  intro W base args ds gs before hval0 hW hcnd _
  have hval : ∀ (j : Nat) t v, Try.f9.params[j]? = some t → args[j]? = some v → Value.okWide Try.prog W .any base t v := hval0
  have hW' := hW
  obtain ⟨p, q, hA0, hV, rfl, hfz, hnd⟩ := hW
  have hA : DataW.TrodAll enc Try.prog W 0 (fun _ => true) true Try.f9.params.toList args.toList ds p := hA0
  rw [Try.params9] at hA hval
  obtain ⟨v0, vs0, d0, ds0, p0, q0, hargs, rfl, rfl, h0, r0⟩ := trodAll_cons hA
  obtain ⟨v1, vs1, d1, ds1, p1, q1, rfl, rfl, rfl, h1, r1⟩ := trodAll_cons r0
  obtain ⟨rfl, rfl, rfl⟩ := trodAll_nil r1
  obtain rfl : args = #[v0, v1] := by cases args; simp_all
  obtain ⟨rfl, rfl⟩ := trodVars_none hV
  obtain ⟨a0, len0, cap0, rfl⟩ := okWide_slice Try.underlying23 (hval 0 23 v0 rfl rfl)
  have k0 := h0
  have lt0 : ∀ x ∈ p0, x.block < W.heap.size := by obtain ⟨m, hm⟩ := k0; exact DataW.trod_lt m _ _ _ hm
  obtain ⟨z0, w0⟩ : ∃ zs, IsRow .u8 W a0 len0 cap0 zs := by
    obtain ⟨fuel, hf⟩ := h0
    rcases open_ints Try.underlying23 Try.underlying5 (by kernel_rfl) hf with ⟨hcs, _⟩ | ⟨x, l, c, zs, hcs, _, hl, hm, hz, _, hcell, hwz⟩
    · simp [Value.cells] at hcs
      obtain ⟨rfl, rfl, rfl⟩ := hcs
      exact ⟨[], .inl ⟨rfl, rfl, rfl, rfl⟩⟩
    · simp [Value.cells] at hcs
      obtain ⟨rfl, rfl, rfl⟩ := hcs
      exact ⟨zs, .inr ⟨_, rfl, hl, hm, by simpa using hz, hcell, hwz⟩⟩
  obtain ⟨a1, rfl, rfl, rfl, w1⟩ := open_int Try.underlying41 (hval 1 41 v1 rfl rfl) h1
  clear hA0 hval0
  refine (walk a0 len0 cap0 z0 a1 W w0 w1).mono fun e W' ⟨he, bel⟩ => ?_
  subst he
  exact ⟨_, rfl, _, _, _, [], _, [], hW', trodAll_mk1 (shut_bool Try.underlying4 _), (trodAll_cons_mk (Below.trod laidOut (by kernel_rfl) (of_decide_eq_true (by kernel_rfl)) k0 bel lt0) (trodAll_cons_mk (shut_int Try.underlying41 w1) trodAll_mk0)), rfl, bel.frame _, fun h => by cases h⟩

theorem over : Rows.crcMasksRow.holds Try.pinned (OpenSpec.ofChange Rows.crcMasksSpec) :=
  OpenClaim.holds_of_wide 9 Try.f9 rfl rfl rfl rfl rfl rfl rfl ⟨rfl, rfl, rfl, rfl, rfl⟩ rfl rfl rfl rfl rfl (by kernel_rfl) Try.func9 (by kernel_rfl)
    (of_decide_eq_true (by kernel_rfl)) (by unfold Func.isWrapper; first | (rw [if_pos (by decide +kernel)]; kernel_rfl) | (rw [if_neg (by decide +kernel)]; exact ⟨rfl, rfl⟩))
    (fun os started H enc _ => lifted os started H enc)

theorem proved : Rows.CrcMasksSaid := over
#print axioms proved
end Go.Proofs.Ythajakigiffleaa.crcMasks
