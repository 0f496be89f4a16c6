/-
  Contract of the closure of segment.Split. Condition: slices that lie in memory.
-/
import Derived.Test.YtcbbkflnenkpgaaGreatSj
namespace Go.Proofs.YtcbbkflnenkpgaaGreat
open Go.RowKit
set_option linter.unusedVariables false
/-- a code block out of its data -/
def segB (b : Nat) (d : List Int) : List Int := if b ≤ 6144 then d else d ++ crcSum 2 d
def ScPost (b RB m : Nat) (A : Option Addr) (n c : Nat) (ys : List Int) (W : World) (e : Ending) (w' : World) : Prop := ∃ A' n' c', e = .returned (.slice A' n' c') ∧ Own .u8 5 w' W.heap.size A' n' c' (segB b (ys.take m)) ∧ Blk w' RB 25 [.slice (cut A c m) (n - m) (c - m)] ∧ W.grownBy w' (some RB)
theorem Rdv.slm {w : World} {A : Option Addr} {n c : Nat} {vs : List Value} {P : Program} (h : Rdv w A n c vs) {t e : TypeId} {z : Value} {bytes : Nat} (E : El P t e z bytes) (kh km : IntKind) {m : Nat} (hm : m ≤ c) (W : World) :
    (Instr.sliceAt t (.slice A n c) none (some (.int kh (m : Int))) (some (.int km (m : Int)))).run P W = .ok (.slice A m m) W := by
  have e1 : P.underlying t = some (.slice (P.elem t)) := by rw [E.u]; simp [Program.elem, E.u]
  have e2 : P.elem t = e := by simp [Program.elem, E.u]
  rw [run_sliceAt_slice W t _ _ _ _ e1, run_slice_hm W t A n c e1 kh km m m (by omega) (by omega) (by omega), e2, E.s]
  simp only [Result.andThen_ok, Int.toNat_natCast, sliced, Nat.zero_mul, Nat.sub_zero]
  congr 2
  split
  · rfl
  · cases A <;> simp [Addr.add]
theorem Rdv.capped {w : World} {A : Option Addr} {n c : Nat} {vs : List Value} (h : Rdv w A n c vs) {m : Nat} (hm : m ≤ n) : Rdv w A m m (vs.take m) := by
  have h1 := h.upto hm
  have h2 := h.le
  have h3 := h.cm
  exact ⟨h1.len, Nat.le_refl _, by omega, fun hA => by have := h.nil hA; omega, fun hc => h.spot (by omega), fun hc => h.lt (by omega), h1.at_⟩
theorem Rd.capped {w : World} {k : IntKind} {A : Option Addr} {n c : Nat} {xs : List Int} (h : Rd k w A n c xs) {m : Nat} (hm : m ≤ n) : Rd k w A m m (xs.take m) := by
  have := Rdv.capped h hm
  unfold Rd; rwa [List.map_take]
theorem own_ne_blk {w : World} {B : Nat} {t e : TypeId} {cs : List Value} {base : Nat} {A : Option Addr} {n c : Nat} {vs : List Value} (hB : Blk w B t cs) (hO : Ownv e w base A n c vs) (ht : t ≠ e) (hA : A ≠ none) : blk A ≠ B := by
  intro h
  obtain ⟨hl, h2⟩ := hO.cases
  rcases h2 with ⟨rfl, rfl, rfl⟩ | ⟨g, cur, rfl, hb, hh, _⟩
  · exact hA rfl
  · have e1 : g = B := h
    subst e1
    have h1 : w.heap[g]? = some (.cells cs.toArray t (0, 0)) := hB
    rw [h1] at hh
    injection hh with hh
    injection hh with _ h9
    exact ht h9
theorem own_set_blk {w : World} {B : Nat} {t e : TypeId} {cs : List Value} {base : Nat} {A : Option Addr} {n c : Nat} {vs : List Value} (hB : Blk w B t cs) (hO : Ownv e w base A n c vs) (ht : t ≠ e) (j : Nat) (v : Value) : Ownv e (w.setCell ⟨B, j, none⟩ v) base A n c vs :=
  hO.grown (grownBy_set w B j v) (fun hA he => own_ne_blk hB hO ht hA (Option.some.inj he))
theorem grownBy_below {w w1 w2 : World} {row : Option Nat} (h1 : Below w.heap.size w w1) (h2 : w1.grownBy w2 row) : w.grownBy w2 row :=
  ⟨h2.os.trans h1.os, h2.tape.trans h1.tape, h2.output.trans h1.output, Nat.le_trans h1.size h2.size, fun k hk hne => (h2.block k (Nat.lt_of_lt_of_le hk h1.size) hne).trans (h1.block k hk)⟩
theorem grownBy_then {w w1 w2 : World} {row : Option Nat} (h1 : w.grownBy w1 row) (h2 : Below w1.heap.size w1 w2) : w.grownBy w2 row :=
  ⟨h2.os.trans h1.os, h2.tape.trans h1.tape, h2.output.trans h1.output, Nat.le_trans h1.size h2.size, fun k hk hne => (h2.block k (Nat.lt_of_lt_of_le hk h1.size)).trans (h1.block k hk hne)⟩
set_option maxRecDepth 100000 in
set_option maxHeartbeats 1000000 in
theorem splitc_any (b i LB RB m : Nat) (A : Option Addr) (n c : Nat) (ys : List Int) (W : World) (h1 : 1 ≤ b) (h2 : b ≤ 79560) (hi : i < bC b) (hm : m + ck b = sz b i)
    (hL : Blk W LB 79 (ints8 (LY b))) (hR : Blk W RB 25 [.slice A n c]) (hy : Rd .u8 W A n c ys) (hn : m ≤ n) (hn2 : n ≤ 100000) (hv : ValidB ys = true) :
    Calls Tryz.prog 47 #[.int .i64 i, .pointer (some ⟨LB, 0, none⟩), .pointer (some ⟨RB, 0, none⟩)] W (ScPost b RB m A n c ys W) := by
  have hsz := sz_if b i
  have hck : ((ck b : Nat) : Int) = if 1 < (bC b : Int) then 24 else 0 := by
    unfold ck bC; split
    · rfl
    · rw [if_pos (by omega)]; rfl
  have hck2 : ck b = 0 ∨ ck b = 24 := by unfold ck; split <;> simp
  have HCK := Lib.hid (show ck b = 0 ↔ b ≤ 6144 by unfold ck; split <;> simp_all)
  have hszu := (sz_ge (i := i) h1).2
  have HSZ := Lib.hid hsz
  have HCK1 := Lib.hid hck
  clear hsz hck
  have hB := bC_le h2
  generalize sz b i = Z at *
  generalize hkk : ck b = k at *
  unfold LY at hL
  generalize (lo b : Int) = N at *
  generalize (sh b : Int) = S at *
  generalize (los b : Int) = R at *
  generalize (shs b : Int) = Q at *
  generalize (fi b : Int) = F at *
  obtain ⟨⟨c0, c1, c2, c3, c4, c5, c6⟩, -⟩ := Blk.seven hL
  go_enter Tryz.func47, Tryz.ntmps47
  go_wp2_with fail
  go_region_held3 (fun W' => W'.cell? ⟨LB, 0, none⟩ = some (.int .i64 b) ∧ W'.cell? ⟨LB, 1, none⟩ = some (.int .i64 (bC b : Int)) ∧ W'.cell? ⟨LB, 2, none⟩ = some (.int .i64 N) ∧ W'.cell? ⟨LB, 3, none⟩ = some (.int .i64 S) ∧ W'.cell? ⟨LB, 4, none⟩ = some (.int .i64 R) ∧ W'.cell? ⟨LB, 5, none⟩ = some (.int .i64 Q) ∧ W'.cell? ⟨LB, 6, none⟩ = some (.int .i64 F))
    (first | exact ⟨c0, c1, c2, c3, c4, c5, c6⟩ | exact (Blk.seven (Blk.below (Blk.below (Blk.drew hL) hBa) hBb)).1 | exact (Blk.seven (Blk.below (Blk.below (Blk.drew hL) hBb) hBa)).1 | exact (Blk.seven (Blk.below (Blk.drew hL) hBa)).1 | exact (Blk.seven (Blk.below (Blk.drew hL) hBb)).1)
    (first
      | (go_at_call 48; refine (size_any _ _ _ _ _ _ _ _ _).mono ?_; rintro e wa ⟨he, hBa⟩; rw [← HSZ.out] at he; subst he)
      | (go_at_call 49; refine (check_lay _ _ _ _ _ _ _ _).mono ?_; rintro e wb ⟨he, hBb⟩; rw [← HCK1.out] at he; subst he))
  have hBl : Below W.heap.size W wb := ((Below.refl _ W).drew.trans hBa).trans (hBb.mono hBa.size)
  have hL2 := hL.below hBl
  have hR2 := hR.below hBl
  have hy2 := Rdv.below hy hBl
  have HBL := Lib.hid hBl
  have hRne : LB ≠ RB := by
    intro e
    have h3 : W.heap[LB]? = _ := hL
    have h4 : W.heap[RB]? = _ := hR
    rw [e, h4] at h3
    injection h3 with h3
    injection h3 with _ h9
    exact absurd h9 (by decide)
  have hRne' : RB ≠ LB := hRne.symm
  have hrl := hR.lt
  clear hBl hBa hBb c0 c1 c2 c3 c4 c5 c6
  have hw0 : IntKind.i64.wrap ((Z : Int) - k) = m := by rw [IntKind.wrap_i64]; omega
  rw [hw0]
  clear hw0
  have hcc := Rdv.le hy
  have r0 := hR2.cell (j := 0) rfl
  have s1 := fun W => Rdv.slm hy2 el53 .i64 .i64 (m := m) (by omega) W
  have s2 := fun W => Rdv.sll hy2 el53 .i64 hn W
  have hcl := Lib.hid (clone_any A m m (ys.take m) wb (Rd.capped hy2 hn) (by omega))
  have hvt := Lib.hid (validB_take m hv)
  go_wp2_with (go_at_call 50; refine hcl.out.mono ?_; rintro e w3 ⟨A3, c3', rfl, hO3, hB3⟩; have hR3 := hR2.below hB3; have r3 := hR3.cell (j := 0) rfl; have rf3 := hR3.frozen 0; have hL3 := (hL2.below hB3).other hRne' 0 (.slice (cut A c m) (n - m) (c - m)); obtain ⟨⟨c0, c1, c2, c3, c4, c5, c6⟩, -⟩ := Blk.seven hL3; have HB3 := Lib.hid (HBL.out.trans (hB3.mono HBL.out.size)); have HR3 := Lib.hid (hR3.set 0 (.slice (cut A c m) (n - m) (c - m))); have HO3 := Lib.hid hO3; have HZ3 := Lib.hid hB3.size; clear hO3 hB3 hcl)
  have HO4 := Lib.hid (own_set_blk hR3 HO3.out (by decide) 0 (.slice (cut A c m) (n - m) (c - m)))
  have HG4 := Lib.hid (grownBy_below HB3.out (grownBy_set w3 RB 0 (.slice (cut A c m) (n - m) (c - m))))
  clear r0 s1 s2 hR2 hL2 hy2 hL hR hR3 r3 rf3 HB3 HO3
  generalize w3.setCell ⟨RB, 0, none⟩ (.slice (cut A c m) (n - m) (c - m)) = W4 at *
  refine (check_lay _ _ _ _ _ _ _ _).mono ?_
  rintro e w5 ⟨he, hB5⟩
  rw [← HCK1.out] at he
  subst he
  have HG5 := Lib.hid (grownBy_then HG4.out hB5)
  have HO5 := Lib.hid (Ownv.below HO4.out hB5)
  have HR5 := Lib.hid (HR3.out.below hB5)
  clear hB5 HG4 HO4 HR3 hL3 c0 c1 c2 c3 c4 c5 c6
  rcases hck2 with rfl | rfl
  · have hb := HCK.out.1 rfl
    go_wp2
    go_ret
    refine ⟨A3, m, c3', rfl, ?_, HR5.out, HG5.out⟩
    unfold segB
    rw [if_pos hb]
    exact Ownv.mono HO5.out HBL.out.size
  · have hb : ¬ b ≤ 6144 := fun h9 => by have := HCK.out.2 h9; cases this
    have hat := Lib.hid (attach_any 2 A3 m c3' (ys.take m) w5 (Own.rd HO5.out) (by omega))
    have e1 : cErr 2 (ys.take m) = 0 := by unfold cErr; rw [if_neg (by decide), if_pos hvt.out]
    have e2 : aRes 2 (ys.take m) = ys.take m ++ crcSum 2 (ys.take m) := by unfold aRes; rw [if_neg (by decide), if_pos hvt.out]
    rw [e1, e2] at hat
    clear e1 e2
    go_wp2_with (first
      | (go_at_call 18; refine hat.out.mono ?_; rintro e w6 ⟨A6, n6, c6, rfl, hO6, hB6⟩; have HO6 := Lib.hid hO6; have HB6 := Lib.hid hB6; clear hO6 hB6)
      | (go_at_call 44; refine (must_ok _ _).mono ?_; rintro e w' ⟨rfl, rfl⟩))
    go_ret
    refine ⟨A6, n6, c6, rfl, ?_, HR5.out.below HB6.out, grownBy_then HG5.out HB6.out⟩
    unfold segB
    rw [if_neg hb]
    exact Ownv.mono HO6.out HG5.out.size
end Go.Proofs.YtcbbkflnenkpgaaGreat
