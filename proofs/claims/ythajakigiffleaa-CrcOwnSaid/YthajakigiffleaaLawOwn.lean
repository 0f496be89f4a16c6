/-
  Proves Rows.CrcOwnSaid: called with any arguments the Go function userplanelaw03.CrcOwn returns true and leaves its arguments as they were. Conditions: none.
-/
import Derived.Test.YthajakigiffleaaRows
import Derived.Test.YthajakigiffleaaU
import Derived.WalkKit
import Derived.ProofKit
import Derived.OpenShut
import Derived.ShutString
import Derived.ChangeOld
import Derived.Below
namespace Go.Proofs.Ythajakigiffleaa.crcOwn
open Go.ChangeShapes Go.WideShapes Go.ChangeAt Go.RowKit
open Go.ChangeMaps (open_string shut_string)
set_option linter.unusedVariables false

theorem own : ownKnob Try.prog.godebug = none := by kernel_rfl
theorem laidOut : laidOutB Try.prog = true := by kernel_rfl

def IsRow (k : IntKind) (w : World) (a : Option Addr) (len cap : Nat) (zs : List Int) : Prop :=
  (a = none ∧ len = 0 ∧ cap = 0 ∧ zs = []) ∨
  ∃ x, a = some x ∧ len ≤ cap ∧ cap ≤ maxLen ∧ zs.length = cap ∧ (∀ i, i < zs.length → w.cell? (x.add i) = some (.int k (zs.getD i 0))) ∧ ∀ n ∈ zs, (Lit.int k n).wf = true

set_option maxHeartbeats 800000 in
theorem walk (a0 : Int) (a1 : Option Addr) (len1 cap1 : Nat) (z1 : List Int) (a2 : Int) (w : World) (w0 : (Lit.int .i64 a0).wf = true) (w1 : IsRow .u8 w a1 len1 cap1 z1) (w2 : (Lit.int .u16 a2).wf = true) :
    Calls Try.prog 10 #[.int .i64 a0, .slice a1 len1 cap1, .int .u16 a2] w fun e w' => e = .returned (.bool true) ∧ Below w.heap.size w w' := by
  obtain ⟨hx, hwf⟩ := rd_of_row w1
  generalize z1.take len1 = xs at *
  clear w1
  have hbd := hx.bd.1
  have hid : 0 ≤ a2 ∧ a2 ≤ 65535 := by simpa [Lit.wf, IntKind.min, IntKind.max, IntKind.signed, IntKind.bits] using w2
  by_cases h2 : 2000 < len1
  · go_enter Try.func10, Try.ntmps10
    go_wp2_with (go_at_call 11; refine (known_any _).mono ?_; rintro e w' ⟨rfl, hB⟩)
    go_ret
    exact ⟨rfl, hB⟩
  have hxl := Lib.hid hx.len
  have hal := Lib.hid (aRes_len a0 xs)
  clear w0 w2 hwf
  go_enter Try.func10, Try.ntmps10
  go_wp2_with fail
  refine (own_any a1 len1 cap1 xs w hx (by omega)).mono ?_
  rintro e w1 ⟨A0, c0, rfl, hO0, hB0⟩
  go_wp2_with fail
  refine (attach_any a0 A0 len1 c0 xs w1 (Own.rd hO0) (by omega)).mono ?_
  rintro e w2 ⟨A1, n1, c1, rfl, hO1, hB1⟩
  have hn1 : n1 ≤ 2024 := by have h1 := (Own.rd hO1).len; have h2 := hal.out; have h3 := hxl.out; omega
  go_wp2_with fail
  refine (check_any a0 A1 n1 c1 _ w2 (Own.rd hO1) (by omega)).mono ?_
  rintro e w3 ⟨A3, n3, c3, rfl, hO3, hB3⟩
  have o2 := Rdv.below (Own.rd hO0) hB1
  have o3 := Rdv.below o2 hB3
  go_wp2_with fail
  refine (mask_any A0 len1 c0 xs a2 w3 o3 (by omega) hid.1 hid.2).mono ?_
  rintro e w4 ⟨A4, n4, c4, rfl, hO4, hB4⟩
  have o4 := Rdv.below o3 hB4
  go_wp2_with fail
  refine (compute_any a0 A0 len1 c0 xs w4 o4).mono ?_
  rintro e w5 ⟨A5, n5, c5, rfl, hO5, hB5⟩
  have hB25 : Below w2.heap.size w2 w5 := bnext (bnext hB3 hB4) hB5
  have y5 := Rdv.below (Own.rd hO1) hB25
  go_wp2_with fail
  refine (own_any A1 n1 c1 _ w5 y5 (by omega)).mono ?_
  rintro e w6 ⟨A6, c6, rfl, hO6, hB6⟩
  have hs34 := hB3.size
  have hs4 := hB4.size
  have hs5 := hB5.size
  have hs6 := hB6.size
  have hst : OwnSt w2 ⟨A3, n3, c3, []⟩ ⟨A4, n4, c4, []⟩ ⟨A5, n5, c5, []⟩ A6 n1 c6 (aRes a0 xs) w6.heap.size (w6.alloc (.cells #[.slice A3 n3 c3, .slice A4 n4 c4, .slice A5 n5 c5] 23)) := by
    refine ⟨(hB25.trans (hB6.mono hB25.size)).alloc (by have := hB25.size; omega) _, Rdv.alloc (Own.rd hO6) _, (Ownv.lit (base := 0) w6 #[.slice A3 n3 c3, .slice A4 n4 c4, .slice A5 n5 c5] 23 rfl (Nat.zero_le _) (by show 3 ≤ maxLen; unfold maxLen; omega)).rd, ?_, ?_, ?_⟩
    · exact hid_row (Ownv.alloc (Ownv.below (Ownv.below (Ownv.below hO3 hB4) hB5) hB6) _)
    · exact hid_row (Ownv.mono (Ownv.alloc (Ownv.below (Ownv.below hO4 hB5) hB6) _) (by omega))
    · exact hid_row (Ownv.mono (Ownv.alloc (Ownv.below hO5 hB6) _) (by omega))
  have hsep : Sep ⟨A3, n3, c3, []⟩ ⟨A4, n4, c4, []⟩ ⟨A5, n5, c5, []⟩ A6 w6.heap.size := by
    have q3 := fun h => Ownv.blk_of hO3 h
    have q4 := fun h => Ownv.blk_of hO4 h
    have q5 := fun h => Ownv.blk_of hO5 h
    have q6 := fun h => Ownv.blk_of hO6 h
    refine ⟨?_, ?_, ?_, ?_, ?_, ?_, ?_, ?_, ?_⟩ <;> simp only <;> intro ha
    · intro hb; have := q3 ha; have := q4 hb; omega
    · intro hb; have := q3 ha; have := q5 hb; omega
    · intro hb; have := q4 ha; have := q5 hb; omega
    · intro hb; have := q3 ha; have := q6 hb; omega
    · intro hb; have := q4 ha; have := q6 hb; omega
    · intro hb; have := q5 ha; have := q6 hb; omega
    · have := q3 ha; omega
    · have := q4 ha; omega
    · have := q5 ha; omega
  have hB02 := bnext hB0 hB1
  have HSEP := Lib.hid hsep
  clear hO3 hO4 hO5 hO6 hB3 hB4 hB5 hB6 hB25 y5 o3 o4 hs34 hs4 hs5 hs6 hsep o2 hid
  go_wp2_with fail
  generalize aRes a0 xs = ks at *
  go_loopw [58] (fun i wr => RowsInv w2 ⟨A3, n3, c3, []⟩ ⟨A4, n4, c4, []⟩ ⟨A5, n5, c5, []⟩ A6 n1 c6 ks w6.heap.size i wr) (fun i _ => 3 - (intOf i).toNat)
  case atStart => exact ⟨0, by omega, rfl, hst⟩
  case round =>
    obtain ⟨j, hj, rfl, hs⟩ := hrel
    clear hst
    by_cases hlt : j < 3
    · have hix := fun W => Rdv.ix hs.l el45 hlt .i64 W
      obtain ⟨x, hc, hown, hset⟩ := hs.pick j hlt
      have HS := Lib.hid hs; have HOWN := Lib.hid hown; have HSET := Lib.hid hset
      clear hs hown hset
      rw [adr_some, Nat.zero_add] at hc
      have hxn : x.n ≤ 9223372036854775807 := by obtain ⟨vs, h⟩ := HOWN.out _ HS.out; exact (Own.rd h).bd.1
      go_wp2
      go_loopw [19] (fun i wr => InnInv w2 ⟨A3, n3, c3, []⟩ ⟨A4, n4, c4, []⟩ ⟨A5, n5, c5, []⟩ A6 n1 c6 ks w6.heap.size x.n i wr) (fun i _ => x.n - (intOf i).toNat)
      case atStart => exact ⟨0, by omega, rfl, HS.out⟩
      case round =>
        obtain ⟨q, hq, rfl, hsq⟩ := hrel
        by_cases hlq : q < x.n
        · obtain ⟨vs, hO⟩ := HOWN.out _ hsq
          have hix2 := fun W => Rdv.ix (Own.rd hO) el23 hlq .i64 W
          have hcell2 := Rd.cell (Own.rd hO) hlq
          have hfz := Ownv.frozen hO (by have := Rdv.le (Own.rd hO); omega) q
          have HQ := Lib.hid (HSET.out HSEP.out _ q 77 hsq hlq)
          clear hO hsq
          go_wp2
          go_roundw
          case rel => exact ⟨q + 1, by omega, by go_num, HQ.out⟩
          case measure => simp [intOf]; omega
        · go_wp2
          go_roundw
          case rel => exact ⟨j + 1, by omega, by go_num, hsq⟩
          case measure => simp [intOf]; omega
    · have hBr := hs.b
      have yk := hs.k
      have ya := Rdv.below (Own.rd hO1) hBr
      have hor := Ownv.below hO1 hBr
      have hB1r := bnext hB1 hBr
      clear hs
      go_wp2_with fail
      refine (same_true _ _ _ _ _ _ _ _ yk ya).mono ?_
      rintro e w7 ⟨rfl, hB7⟩
      have ho7 := hid_row (Ownv.below hor hB7)
      have hB17 := bnext hB1r hB7
      clear hBr yk ya hor hB1r hB7
      go_wp2
      show Code.wp _ _ _ _ _
      go_loopw [20] (fun i wr => EndInv w1 A1 n1 c1 i wr) (fun i _ => n1 - (intOf i).toNat)
      case atStart => exact ⟨0, by omega, rfl, ho7, hB17⟩
      case round =>
        obtain ⟨q, hq, rfl, ⟨vs, hO⟩, hB⟩ := hrel
        clear ho7 hB17
        by_cases hlq : q < n1
        · have hix2 := fun W => Rdv.ix (Own.rd hO) el23 hlq .i64 W
          have hcell2 := Rd.cell (Own.rd hO) hlq
          have hfz := Ownv.frozen hO (by have := Rdv.le (Own.rd hO); omega) q
          have HQ := Lib.hid (Own.set_ hO hlq 78)
          have HBQ := Lib.hid (hB.grown (Own.set_ hO hlq 78).2 hB.size (fun k hk => by injection hk with hk; rw [← hk]; exact (Ownv.blk_of hO (own_some hO hlq)).1))
          clear hO hB
          go_wp2
          go_roundw
          case rel => exact ⟨q + 1, by omega, by go_num, ⟨_, HQ.out.1⟩, HBQ.out⟩
          case measure => simp [intOf]; omega
        · have o9 := Rdv.below (Own.rd hO0) hB
          have hB09 := bnext hB0 hB
          have x9 := Rdv.below hx hB09
          go_wp2_with fail
          refine (same_true _ _ _ _ _ _ _ _ o9 x9).mono ?_
          rintro e w8 ⟨rfl, hB8⟩
          go_wp2_with fail
          refine (known_any _).mono ?_
          rintro e w9 ⟨rfl, hB9⟩
          go_wp2
          go_ret
          exact ⟨rfl, bnext (bnext hB09 hB8) hB9⟩

set_option maxRecDepth 100000 in
theorem lifted (os : Os) (started : os.Started) (H : Type) (enc : TypeId × Value → H) :
    ReturnsInHanded {} Try.checked os 10 .any (Rows.crcOwnSpec.pre6 enc Try.prog Try.f10 Rows.crcOwnRow.domain false) (Rows.crcOwnSpec.post enc Try.prog Try.f10 false true false false) := by
  refine returnsInHanded_of_change (C := Try.checked) own started (by kernel_rfl) Try.func10
    (ChangeSpec.witness6 (enc := enc) (C := Try.checked) false ⟨#[], #[.int .i64 0, .slice none 0 0, .int .u16 0], []⟩ 8 (by kernel_rfl) (by kernel_rfl) (by kernel_rfl) (by kernel_rfl)) ?_
  intro W base args ds gs before hval0 hW hcnd _
  have hval : ∀ (j : Nat) t v, Try.f10.params[j]? = some t → args[j]? = some v → Value.okWide Try.prog W .any base t v := hval0
  have hW' := hW
  obtain ⟨p, q, hA0, hV, rfl, hfz, hnd⟩ := hW
  have hA : DataW.TrodAll enc Try.prog W 0 (fun _ => true) true Try.f10.params.toList args.toList ds p := hA0
  rw [Try.params10] at hA hval
  obtain ⟨v0, vs0, d0, ds0, p0, q0, hargs, rfl, rfl, h0, r0⟩ := trodAll_cons hA
  obtain ⟨v1, vs1, d1, ds1, p1, q1, rfl, rfl, rfl, h1, r1⟩ := trodAll_cons r0
  obtain ⟨v2, vs2, d2, ds2, p2, q2, rfl, rfl, rfl, h2, r2⟩ := trodAll_cons r1
  obtain ⟨rfl, rfl, rfl⟩ := trodAll_nil r2
  obtain rfl : args = #[v0, v1, v2] := by cases args; simp_all
  obtain ⟨rfl, rfl⟩ := trodVars_none hV
  obtain ⟨a0, rfl, rfl, rfl, w0⟩ := open_int Try.underlying22 (hval 0 22 v0 rfl rfl) h0
  obtain ⟨a1, len1, cap1, rfl⟩ := okWide_slice Try.underlying23 (hval 1 23 v1 rfl rfl)
  have k1 := h1
  have lt1 : ∀ x ∈ p1, x.block < W.heap.size := by obtain ⟨m, hm⟩ := k1; exact DataW.trod_lt m _ _ _ hm
  obtain ⟨z1, w1⟩ : ∃ zs, IsRow .u8 W a1 len1 cap1 zs := by
    obtain ⟨fuel, hf⟩ := h1
    rcases open_ints Try.underlying23 Try.underlying5 (by kernel_rfl) hf with ⟨hcs, _⟩ | ⟨x, l, c, zs, hcs, _, hl, hm, hz, _, hcell, hwz⟩
    · simp [Value.cells] at hcs
      obtain ⟨rfl, rfl, rfl⟩ := hcs
      exact ⟨[], .inl ⟨rfl, rfl, rfl, rfl⟩⟩
    · simp [Value.cells] at hcs
      obtain ⟨rfl, rfl, rfl⟩ := hcs
      exact ⟨zs, .inr ⟨_, rfl, hl, hm, by simpa using hz, hcell, hwz⟩⟩
  obtain ⟨a2, rfl, rfl, rfl, w2⟩ := open_int Try.underlying41 (hval 2 41 v2 rfl rfl) h2
  clear hA0 hval0
  refine (walk a0 a1 len1 cap1 z1 a2 W w0 w1 w2).mono fun e W' ⟨he, bel⟩ => ?_
  subst he
  exact ⟨_, rfl, _, _, _, [], _, [], hW', trodAll_mk1 (shut_bool Try.underlying4 _), (trodAll_cons_mk (shut_int Try.underlying22 w0) (trodAll_cons_mk (Below.trod laidOut (by kernel_rfl) (of_decide_eq_true (by kernel_rfl)) k1 bel lt1) (trodAll_cons_mk (shut_int Try.underlying41 w2) trodAll_mk0))), rfl, bel.frame _, fun h => by cases h⟩

theorem over : Rows.crcOwnRow.holds Try.pinned (OpenSpec.ofChange Rows.crcOwnSpec) :=
  OpenClaim.holds_of_wide 10 Try.f10 rfl rfl rfl rfl rfl rfl rfl ⟨rfl, rfl, rfl, rfl, rfl⟩ rfl rfl rfl rfl rfl (by kernel_rfl) Try.func10 (by kernel_rfl)
    (of_decide_eq_true (by kernel_rfl)) (by unfold Func.isWrapper; first | (rw [if_pos (by decide +kernel)]; kernel_rfl) | (rw [if_neg (by decide +kernel)]; exact ⟨rfl, rfl⟩))
    (fun os started H enc _ => lifted os started H enc)

theorem proved : Rows.CrcOwnSaid := over
#print axioms proved
end Go.Proofs.Ythajakigiffleaa.crcOwn
