/- Bundle. Conditions: none. -/
import Derived.Test.YtkdfefpnhaebfaaGreatBuoay
set_option linter.unusedVariables false
set_option linter.unusedSimpArgs false
namespace Go.Proofs.YtkdfefpnhaebfaaGreat.Cr
open Go.RowKit
set_option maxRecDepth 100000
set_option maxHeartbeats 1000000
def segB (b : Nat) (d : List Int) : List Int := if b ≤ 6144 then d else d ++ crcSum 2 d
def ScPost (b RB m : Nat) (A : Option Addr) (n c : Nat) (ys : List Int) (W : World) (e : Ending) (w' : World) : Prop := ∃ A' n' c', e = .returned (.slice A' n' c') ∧ Own .u8 5 w' W.heap.size A' n' c' (segB b (ys.take m)) ∧ Blk w' RB 28 [.slice (cut A c m) (n - m) (c - m)] ∧ W.grownBy w' (some RB)
theorem Rdv.slm {w : World} {A : Option Addr} {n c : Nat} {vs : List Value} {P : Program} (h : Rdv w A n c vs) {t e : TypeId} {z : Value} {bytes : Nat} (E : El P t e z bytes) (kh km : IntKind) {m : Nat} (hm : m ≤ c) (W : World) :
 (Instr.sliceAt t (.slice A n c) none (some (.int kh (m : Int))) (some (.int km (m : Int)))).run P W = .ok (.slice A m m) W := by
 have e1 : P.underlying t = some (.slice (P.elem t)) := by rw [E.u]; simp [Program.elem, E.u]
 have e2 : P.elem t = e := by simp [Program.elem, E.u]
 rw [run_sliceAt_slice W t _ _ _ _ e1, run_slice_hm W t A n c e1 kh km m m (by omega) (by omega) (by omega), e2, E.s]
 simp only [Result.andThen_ok, Int.toNat_natCast, sliced, Nat.zero_mul, Nat.sub_zero]
 congr 2
 split
 · rfl
 · cases A <;> simp [Addr.add]
theorem Rdv.capped {w : World} {A : Option Addr} {n c : Nat} {vs : List Value} (h : Rdv w A n c vs) {m : Nat} (hm : m ≤ n) : Rdv w A m m (vs.take m) := by
 have h1 := h.upto hm
 have h2 := h.le
 have h3 := h.cm
 exact ⟨h1.len, Nat.le_refl _, by omega, fun hA => by have := h.nil hA; omega, fun hc => h.spot (by omega), fun hc => h.lt (by omega), h1.at_⟩
theorem Rd.capped {w : World} {k : IntKind} {A : Option Addr} {n c : Nat} {xs : List Int} (h : Rd k w A n c xs) {m : Nat} (hm : m ≤ n) : Rd k w A m m (xs.take m) := by
 have := Rdv.capped h hm
 unfold Rd; rwa [List.map_take]
theorem own_ne_blk {w : World} {B : Nat} {t e : TypeId} {cs : List Value} {base : Nat} {A : Option Addr} {n c : Nat} {vs : List Value} (hB : Blk w B t cs) (hO : Ownv e w base A n c vs) (ht : t ≠ e) (hA : A ≠ none) : blk A ≠ B := by
 intro h
 obtain ⟨hl, h2⟩ := hO.cases
 rcases h2 with ⟨rfl, rfl, rfl⟩ | ⟨g, cur, rfl, hb, hh, _⟩
 · exact hA rfl
 · have e1 : g = B := h
   subst e1
   have h1 : w.heap[g]? = some (.cells cs.toArray t (0, 0)) := hB
   rw [h1] at hh
   injection hh with hh
   injection hh with _ h9
   exact ht h9
theorem own_set_blk {w : World} {B : Nat} {t e : TypeId} {cs : List Value} {base : Nat} {A : Option Addr} {n c : Nat} {vs : List Value} (hB : Blk w B t cs) (hO : Ownv e w base A n c vs) (ht : t ≠ e) (j : Nat) (v : Value) : Ownv e (w.setCell ⟨B, j, none⟩ v) base A n c vs :=
 hO.grown (grownBy_set w B j v) (fun hA he => own_ne_blk hB hO ht hA (Option.some.inj he))
theorem grownBy_below {w w1 w2 : World} {row : Option Nat} (h1 : Below w.heap.size w w1) (h2 : w1.grownBy w2 row) : w.grownBy w2 row :=
 ⟨h2.os.trans h1.os, h2.tape.trans h1.tape, h2.output.trans h1.output, Nat.le_trans h1.size h2.size, fun k hk hne => (h2.block k (Nat.lt_of_lt_of_le hk h1.size) hne).trans (h1.block k hk)⟩
theorem grownBy_then {w w1 w2 : World} {row : Option Nat} (h1 : w.grownBy w1 row) (h2 : Below w1.heap.size w1 w2) : w.grownBy w2 row :=
 ⟨h2.os.trans h1.os, h2.tape.trans h1.tape, h2.output.trans h1.output, Nat.le_trans h1.size h2.size, fun k hk hne => (h2.block k (Nat.lt_of_lt_of_le hk h1.size)).trans (h1.block k hk hne)⟩
theorem splitc_any (b i LB RB m : Nat) (A : Option Addr) (n c : Nat) (ys : List Int) (W : World) (h1 : 1 ≤ b) (h2 : b ≤ 79560) (hi : i < bC b) (hm : m + ck b = sz b i)
 (hL : Blk W LB 110 (ints8 (LY b))) (hR : Blk W RB 28 [.slice A n c]) (hy : Rd .u8 W A n c ys) (hn : m ≤ n) (hn2 : n ≤ 100000) (hv : ValidB ys = true) :
 Calls Tryz.prog 100 #[.int .i64 i, .pointer (some ⟨LB, 0, none⟩), .pointer (some ⟨RB, 0, none⟩)] W (ScPost b RB m A n c ys W) := by
 have hsz := sz_if b i
 have hck : ((ck b : Nat) : Int) = if 1 < (bC b : Int) then 24 else 0 := by
  unfold ck bC; split
  · rfl
  · rw [if_pos (by omega)]; rfl
 have hck2 : ck b = 0 ∨ ck b = 24 := by unfold ck; split <;> simp
 have HCK := Lib.hid (show ck b = 0 ↔ b ≤ 6144 by unfold ck; split <;> simp_all)
 have hszu := (sz_ge (i := i) h1).2
 have HSZ := Lib.hid hsz
 have HCK1 := Lib.hid hck
 clear hsz hck
 have hB := bC_le h2
 generalize sz b i = Z at *
 generalize hkk : ck b = k at *
 unfold LY at hL
 generalize (lo b : Int) = N at *
 generalize (sh b : Int) = S at *
 generalize (los b : Int) = R at *
 generalize (shs b : Int) = Q at *
 generalize (fi b : Int) = F at *
 obtain ⟨⟨c0, c1, c2, c3, c4, c5, c6⟩, -⟩ := Blk.seven hL
 go_enter Tryz.func100, Tryz.ntmps100
 go_wp2_with fail
 go_region_held3 (fun W' => W'.cell? ⟨LB, 0, none⟩ = some (.int .i64 b) ∧ W'.cell? ⟨LB, 1, none⟩ = some (.int .i64 (bC b : Int)) ∧ W'.cell? ⟨LB, 2, none⟩ = some (.int .i64 N) ∧ W'.cell? ⟨LB, 3, none⟩ = some (.int .i64 S) ∧ W'.cell? ⟨LB, 4, none⟩ = some (.int .i64 R) ∧ W'.cell? ⟨LB, 5, none⟩ = some (.int .i64 Q) ∧ W'.cell? ⟨LB, 6, none⟩ = some (.int .i64 F))
  (first | exact ⟨c0, c1, c2, c3, c4, c5, c6⟩ | exact (Blk.seven (Blk.below (Blk.below (Blk.drew hL) hBa) hBb)).1 | exact (Blk.seven (Blk.below (Blk.below (Blk.drew hL) hBb) hBa)).1 | exact (Blk.seven (Blk.below (Blk.drew hL) hBa)).1 | exact (Blk.seven (Blk.below (Blk.drew hL) hBb)).1)
  (first
    | (go_at_call 101; refine (size_any _ _ _ _ _ _ _ _ _).mono ?_; rintro e wa ⟨he, hBa⟩; rw [← HSZ.out] at he; subst he)
    | (go_at_call 92; refine (check_lay _ _ _ _ _ _ _ _).mono ?_; rintro e wb ⟨he, hBb⟩; rw [← HCK1.out] at he; subst he))
 have hBl : Below W.heap.size W wb := ((Below.refl _ W).drew.trans hBa).trans (hBb.mono hBa.size)
 have hL2 := hL.below hBl
 have hR2 := hR.below hBl
 have hy2 := Rdv.below hy hBl
 have HBL := Lib.hid hBl
 have hRne : LB ≠ RB := by
  intro e
  have h3 : W.heap[LB]? = _ := hL
  have h4 : W.heap[RB]? = _ := hR
  rw [e, h4] at h3
  injection h3 with h3
  injection h3 with _ h9
  exact absurd h9 (by decide)
 have hRne' : RB ≠ LB := hRne.symm
 have hrl := hR.lt
 clear hBl hBa hBb c0 c1 c2 c3 c4 c5 c6
 have hw0 : IntKind.i64.wrap ((Z : Int) - k) = m := by rw [IntKind.wrap_i64]; omega
 rw [hw0]
 clear hw0
 have hcc := Rdv.le hy
 have r0 := hR2.cell (j := 0) rfl
 have s1 := fun W => Rdv.slm hy2 el53 .i64 .i64 (m := m) (by omega) W
 have s2 := fun W => Rdv.sll hy2 el53 .i64 hn W
 have hcl := Lib.hid (clone_any A m m (ys.take m) wb (Rd.capped hy2 hn) (by omega))
 have hvt := Lib.hid (validB_take m hv)
 go_wp2_with (go_at_call 50; refine hcl.out.mono ?_; rintro e w3 ⟨A3, c3', rfl, hO3, hB3⟩; have hR3 := hR2.below hB3; have r3 := hR3.cell (j := 0) rfl; have rf3 := hR3.frozen 0; have hL3 := (hL2.below hB3).other hRne' 0 (.slice (cut A c m) (n - m) (c - m)); obtain ⟨⟨c0, c1, c2, c3, c4, c5, c6⟩, -⟩ := Blk.seven hL3; have HB3 := Lib.hid (HBL.out.trans (hB3.mono HBL.out.size)); have HR3 := Lib.hid (hR3.set 0 (.slice (cut A c m) (n - m) (c - m))); have HO3 := Lib.hid hO3; have HZ3 := Lib.hid hB3.size; clear hO3 hB3 hcl)
 have HO4 := Lib.hid (own_set_blk hR3 HO3.out (by decide) 0 (.slice (cut A c m) (n - m) (c - m)))
 have HG4 := Lib.hid (grownBy_below HB3.out (grownBy_set w3 RB 0 (.slice (cut A c m) (n - m) (c - m))))
 clear r0 s1 s2 hR2 hL2 hy2 hL hR hR3 r3 rf3 HB3 HO3
 generalize w3.setCell ⟨RB, 0, none⟩ (.slice (cut A c m) (n - m) (c - m)) = W4 at *
 refine (check_lay _ _ _ _ _ _ _ _).mono ?_
 rintro e w5 ⟨he, hB5⟩
 rw [← HCK1.out] at he
 subst he
 have HG5 := Lib.hid (grownBy_then HG4.out hB5)
 have HO5 := Lib.hid (Ownv.below HO4.out hB5)
 have HR5 := Lib.hid (HR3.out.below hB5)
 clear hB5 HG4 HO4 HR3 hL3 c0 c1 c2 c3 c4 c5 c6
 rcases hck2 with rfl | rfl
 · have hb := HCK.out.1 rfl
   go_wp2
   go_ret
   refine ⟨A3, m, c3', rfl, ?_, HR5.out, HG5.out⟩
   unfold segB
   rw [if_pos hb]
   exact Ownv.mono HO5.out HBL.out.size
 · have hb : ¬ b ≤ 6144 := fun h9 => by have := HCK.out.2 h9; cases this
   have hat := Lib.hid (attach_any 2 A3 m c3' (ys.take m) w5 (Own.rd HO5.out) (by omega))
   have e1 : cErr 2 (ys.take m) = 0 := by unfold cErr; rw [if_neg (by decide), if_pos hvt.out]
   have e2 : aRes 2 (ys.take m) = ys.take m ++ crcSum 2 (ys.take m) := by unfold aRes; rw [if_neg (by decide), if_pos hvt.out]
   rw [e1, e2] at hat
   clear e1 e2
   go_wp2_with (first
    | (go_at_call 56; refine hat.out.mono ?_; rintro e w6 ⟨A6, n6, c6, rfl, hO6, hB6⟩; have HO6 := Lib.hid hO6; have HB6 := Lib.hid hB6; clear hO6 hB6)
    | (go_at_call 91; refine (must_ok _ _).mono ?_; rintro e w' ⟨rfl, rfl⟩))
   go_ret
   refine ⟨A6, n6, c6, rfl, ?_, HR5.out.below HB6.out, grownBy_then HG5.out HB6.out⟩
   unfold segB
   rw [if_neg hb]
   exact Ownv.mono HO6.out HG5.out.size
theorem Ownv.blk_of {e : TypeId} {w : World} {base : Nat} {A : Option Addr} {n c : Nat} {vs : List Value} (h : Ownv e w base A n c vs) (hA : A ≠ none) : base ≤ blk A ∧ blk A < w.heap.size := by
 obtain ⟨hl, h2⟩ := h.cases
 rcases h2 with ⟨rfl, rfl, rfl⟩ | ⟨g, cur, rfl, hb, hh, hnc, hcm, hs, ht⟩
 · exact absurd rfl hA
 · exact ⟨hb, (Array.getElem?_eq_some_iff.1 hh).1⟩
theorem own_some {w : World} {base : Nat} {A : Option Addr} {n c : Nat} {vs : List Int} (h : Own .u8 5 w base A n c vs) {q : Nat} (hq : q < n) : A ≠ none := by
 intro hA
 subst hA
 obtain ⟨hl, h2⟩ := Ownv.cases h
 rcases h2 with ⟨_, rfl, _⟩ | ⟨g, cur, h3, _⟩
 · omega
 · cases h3
def off (b : Nat) : Nat → Nat
 | 0 => 0
 | i + 1 => off b i + (sz b i - ck b)
theorem off_le {b i j : Nat} (h : i ≤ j) : off b i ≤ off b j := by
 induction j with
 | zero => obtain rfl : i = 0 := by omega
           exact Nat.le_refl _
 | succ j ih =>
   by_cases hj : i = j + 1
   · subst hj; exact Nat.le_refl _
   · have := ih (by omega); simp only [off]; omega
theorem off_lo (b : Nat) : ∀ k, k ≤ shs b → off b k = k * (sh b - ck b)
 | 0, _ => by simp [off]
 | k + 1, h => by
   simp only [off]
   rw [off_lo b k (by omega), sz, if_pos (by omega), Nat.add_mul, Nat.one_mul]
theorem off_hi (b : Nat) : ∀ k, off b (shs b + k) = shs b * (sh b - ck b) + k * (lo b - ck b)
 | 0 => by rw [Nat.add_zero, off_lo b _ (Nat.le_refl _)]; simp
 | k + 1 => by
   rw [← Nat.add_assoc]
   simp only [off]
   rw [off_hi b k, sz, if_neg (by omega), Nat.add_mul k 1, Nat.one_mul]; omega
theorem off_all {b : Nat} (h1 : 1 ≤ b) : off b (bC b) = b + fi b := by
 have h2 := shs_lt h1
 have h3 := fi_eq h1
 have e : bC b = shs b + los b := by unfold los; omega
 rw [e, off_hi]
 have h4 : ck b ≤ sh b ∨ shs b = 0 := by
  by_cases h : b ≤ 6144
  · right; unfold shs; rw [if_pos h]
  · left; have := sh_lt h; unfold ck; rw [if_neg h]; omega
 have h5 : ck b ≤ lo b := by
  have := (sz_ge (b := b) (i := shs b) h1).1
  unfold sz at this; simp only [Nat.lt_irrefl, if_false] at this; split at this <;> omega
 have h6 : los b * (lo b - ck b) + los b * ck b = los b * lo b := by rw [← Nat.mul_add]; congr 1; omega
 have h7 : shs b * (sh b - ck b) + shs b * ck b = shs b * sh b := by
  rcases h4 with h4 | h4
  · rw [← Nat.mul_add]; congr 1; omega
  · rw [h4]; simp
 have h8 : tl b = b + (shs b + los b) * ck b := by unfold tl; rw [e]
 rw [Nat.add_mul] at h8
 omega
def segs (b : Nat) (full : List Int) (k : Nat) : List (List Int) := (List.range k).map fun i => segB b ((full.drop (off b i)).take (sz b i - ck b))
theorem segs_succ (b : Nat) (full : List Int) (k : Nat) : segs b full (k + 1) = segs b full k ++ [segB b ((full.drop (off b k)).take (sz b k - ck b))] := by simp [segs, List.range_succ]
structure BL (w : World) (base : Nat) (A : Option Addr) (c : Nat) (L : List Sv) : Prop where
 o : Ownv 28 w base A L.length c (L.map Sv.v)
 r : ∀ s ∈ L, Own .u8 5 w base s.A s.n s.c s.xs ∧ s.A ≠ none
 p : L.Pairwise (fun s t => blk s.A ≠ blk t.A)
theorem rows_ne {w : World} {e1 e2 : TypeId} {b1 b2 n1 c1 n2 c2 : Nat} {A1 A2 : Option Addr} {v1 v2 : List Value} (h1 : Ownv e1 w b1 A1 n1 c1 v1) (h2 : Ownv e2 w b2 A2 n2 c2 v2) (hne : e1 ≠ e2) (hA : A1 ≠ none) : some (blk A1) ≠ (Value.slice A2 n2 c2).ownBlock := by
 intro h
 obtain ⟨-, g1⟩ := h1.cases
 obtain ⟨-, g2⟩ := h2.cases
 rcases g1 with ⟨rfl, -⟩ | ⟨g, cur, rfl, -, hh, -⟩
 · exact hA rfl
 · rcases g2 with ⟨rfl, -⟩ | ⟨g', cur', rfl, -, hh', -⟩
   · simp [Value.ownBlock] at h
   · have e : g = g' := by simpa [Value.ownBlock, blk] using h
     subst e
     rw [hh] at hh'
     injection hh' with hh'
     injection hh' with _ h9
     exact hne h9
section
variable {w w' : World} {base base' c : Nat} {A : Option Addr} {L : List Sv}
theorem BL.nil (w : World) (base : Nat) : BL w base none 0 [] := ⟨Ownv.nilv 28 w base, by simp, List.Pairwise.nil⟩
theorem BL.below (h : BL w base A c L) (hB : Below w.heap.size w w') : BL w' base A c L := ⟨h.o.below hB, fun s hs => ⟨Ownv.below (h.r s hs).1 hB, (h.r s hs).2⟩, h.p⟩
theorem BL.mono (h : BL w base A c L) (hb : base' ≤ base) : BL w base' A c L := ⟨h.o.mono hb, fun s hs => ⟨Ownv.mono (h.r s hs).1 hb, (h.r s hs).2⟩, h.p⟩
theorem BL.grownL (h : BL w base A c L) {B : Nat} (hb : B < base) (hg : w.grownBy w' (some B)) : BL w' base A c L :=
 ⟨h.o.grown hg (fun hA he => by have h1 := (Ownv.blk_of h.o hA).1; have := Option.some.inj he; omega), fun s hs => ⟨Ownv.grown (h.r s hs).1 hg (fun hA he => by have h1 := (Ownv.blk_of (h.r s hs).1 hA).1; have := Option.some.inj he; omega), (h.r s hs).2⟩, h.p⟩
theorem BL.push (h : BL w base A c L) {s : Sv} (hs : Own .u8 5 w base s.A s.n s.c s.xs) (hA : s.A ≠ none) (hp : ∀ t ∈ L, blk t.A ≠ blk s.A) {A' : Option Addr} {c' : Nat}
 (hO : Ownv 28 w' base A' (L.length + 1) c' (L.map Sv.v ++ [s.v])) (hg : w.grownBy w' ((Value.slice A L.length c).ownBlock)) : BL w' base A' c' (L ++ [s]) := by
 refine ⟨by simpa using hO, fun t ht => ?_, ?_⟩
 · rcases List.mem_append.1 ht with ht | ht
   · exact ⟨Ownv.grown (h.r t ht).1 hg (fun hA => rows_ne (h.r t ht).1 h.o (by decide) hA), (h.r t ht).2⟩
   · simp at ht; subst ht
     exact ⟨Ownv.grown hs hg (fun hA => rows_ne hs h.o (by decide) hA), hA⟩
 · rw [List.pairwise_append]
   exact ⟨h.p, List.pairwise_singleton _ _, fun t ht u hu => by simp at hu; subst hu; exact hp t ht⟩
theorem BL.rd (h : BL w base A c L) : Rdv w A L.length c (L.map Sv.v) := h.o.rd
end
theorem grownBy_own {w0 w1 w2 : World} {row row2 : Option Nat} (h1 : w0.grownBy w1 row) (h2 : w1.grownBy w2 row2) (h3 : ∀ k, row2 = some k → w0.heap.size ≤ k) : w0.grownBy w2 row :=
 ⟨h2.os.trans h1.os, h2.tape.trans h1.tape, h2.output.trans h1.output, Nat.le_trans h1.size h2.size, fun k hk hne => (h2.block k (Nat.lt_of_lt_of_le hk h1.size) (fun e => by have := h3 k e.symm; omega)).trans (h1.block k hk hne)⟩
theorem validB_drop {xs : List Int} (n : Nat) (h : ValidB xs = true) : ValidB (xs.drop n) = true := by
 unfold ValidB at *
 rw [List.all_eq_true] at *
 exact fun x hx => h x (List.mem_of_mem_drop hx)
def BuInv (W : World) (b LB RB : Nat) (lay : List Int) (full : List Int) (A0 : Option Addr) (out i : Value) (wr : World) : Prop :=
 ∃ (j : Nat) (A : Option Addr) (c : Nat) (L : List Sv) (Ar : Option Addr) (cr : Nat), j ≤ bC b ∧ i = .int .i64 j ∧ out = .slice A L.length c ∧ BL wr W.heap.size A c L ∧ L.length = j ∧ L.map (·.xs) = segs b full j ∧
  Blk wr LB 110 (ints8 lay) ∧ Blk wr RB 28 [.slice Ar (full.length - off b j) cr] ∧ Rd .u8 wr Ar (full.length - off b j) cr (full.drop (off b j)) ∧ (Ar ≠ none → blk Ar ≠ RB ∧ blk Ar < W.heap.size) ∧ W.grownBy wr (some RB)
def BuPost (W : World) (b RB : Nat) (full : List Int) (e : Ending) (w' : World) : Prop := ∃ A' c' L, e = .returned (.slice A' L.length c') ∧ BL w' W.heap.size A' c' L ∧ L.map (·.xs) = segs b full (bC b) ∧ W.grownBy w' (some RB)
theorem segB_len {b i : Nat} (h1 : 1 ≤ b) (d : List Int) (hd : d.length = sz b i - ck b) : (segB b d).length = sz b i := by
 have := (sz_ge (i := i) h1).1
 unfold segB
 split
 · rename_i h; unfold ck at hd; rw [if_pos h] at hd; omega
 · rename_i h
   rw [List.length_append, crcSum_len]
   unfold ck at hd this
   rw [if_neg h] at hd this
   have : sLen 2 = 24 := rfl
   omega
theorem built_any (b LB RB : Nat) (A0 : Option Addr) (n c0 : Nat) (full : List Int) (W : World) (h1 : 1 ≤ b) (h2 : b ≤ 79560) (hn : n = b + fi b)
 (hL : Blk W LB 110 (ints8 (LY b))) (hR : Blk W RB 28 [.slice A0 n c0]) (hy : Rd .u8 W A0 n c0 full) (hAR : A0 ≠ none → blk A0 ≠ RB) (hv : ValidB full = true) :
 Calls Tryz.prog 99 #[.int .i64 (bC b : Int), .func (.func 100) #[] #[.pointer (some ⟨LB, 0, none⟩), .pointer (some ⟨RB, 0, none⟩)]] W (BuPost W b RB full) := by
 have hC := bC_le h2
 have hfl := hy.len
 have hf64 := fi_lt h1 h2
 have hoff := off_all h1
 subst hfl
 have hAR' : A0 ≠ none → blk A0 ≠ RB ∧ blk A0 < W.heap.size := fun hA => ⟨hAR hA, by
  have h8 := Rdv.le hy
  obtain ⟨bb, oo, rfl, h9⟩ := Rdv.ptr hy (by omega)
  exact h9⟩
 have hlb := hL.lt
 have hrb := hR.lt
 have hLR : some LB ≠ some RB := by
  intro e
  have e := Option.some.inj e
  subst e
  have h3 : W.heap[LB]? = _ := hL
  have h4 : W.heap[LB]? = _ := hR
  rw [h4] at h3
  injection h3 with h3
  injection h3 with _ h9
  exact absurd h9 (by decide)
 go_enter Tryz.func99, Tryz.ntmps99
 go_wp2
 go_loopw [4, 7] (fun out i wr => BuInv W b LB RB (LY b) full A0 out i wr) (fun _ i _ => bC b - (intOf i).toNat)
 case atStart => exact ⟨0, none, 0, [], A0, c0, by omega, rfl, rfl, BL.nil W _, rfl, rfl, hL, hR, hy, hAR', World.grownBy.refl _ _⟩
 case round =>
  obtain ⟨j, A, c, L, Ar, cr, hj, rfl, rfl, hBL, hlen, hxs, hL1, hR1, hy1, hA1, hG1⟩ := hrel
  have HBL := Lib.hid hBL
  have HX := Lib.hid hxs
  have HG := Lib.hid hG1
  have HA := Lib.hid hA1
  subst hlen
  by_cases hlt : L.length < bC b
  · have hsg := (sz_ge (i := L.length) h1).1
    have hstep : off b (L.length + 1) = off b L.length + (sz b L.length - ck b) := rfl
    have hmono := off_le (b := b) (show L.length + 1 ≤ bC b by omega)
    have hc := Lib.hid (splitc_any b L.length LB RB (sz b L.length - ck b) Ar (full.length - off b L.length) cr (full.drop (off b L.length)) wr h1 h2 hlt (by omega) hL1 hR1 hy1 (by omega) (by omega) (validB_drop _ hv))
    have hsl := Lib.hid (segB_len (i := L.length) h1 ((full.drop (off b L.length)).take (sz b L.length - ck b)) (by rw [List.length_take, List.length_drop]; omega))
    have hrl := hR1.lt
    have HL1 := Lib.hid hL1
    have HR1 := Lib.hid hR1
    have HY1 := Lib.hid hy1
    clear hBL hxs hL1 hR1 hy1 hA1 hG1
    go_wp2_with (first
     | (go_at_call 100; refine hc.out.mono ?_; rintro e w1 ⟨A', n', c', rfl, hO', hR', hG'⟩; have HO' := Lib.hid hO'; have HR' := Lib.hid hR'; have HG' := Lib.hid hG'; clear hO' hR' hG')
     | (at_builtin; refine list_of rfl fun K hK => wp_app1 (w := w1) (base := W.heap.size) _ _ 56 rfl el55 rfl (.slice A' n' c') rfl rfl (BL.grownL HBL.out hrb HG'.out).o (by omega) (by omega) (Nat.le_trans HG.out.size HG'.out.size) ?_; intro A2 c2 w2 hO2 hg2; have HO2 := Lib.hid hO2; have HG2 := Lib.hid hg2; clear hO2 hg2; refine hK _ _ ?_; clear hK K))
    have hn' : n' = sz b L.length := by have := Rd.len (Own.rd HO'.out); rw [hsl.out] at this; omega
    have hA' : A' ≠ none := own_some HO'.out (q := 0) (by omega)
    have hge := (Ownv.blk_of HO'.out hA').1
    have hBL2 : BL w2 W.heap.size A2 c2 (L ++ [⟨A', n', c', segB b ((full.drop (off b L.length)).take (sz b L.length - ck b))⟩]) :=
     BL.push (BL.grownL HBL.out hrb HG'.out) (s := ⟨A', n', c', segB b ((full.drop (off b L.length)).take (sz b L.length - ck b))⟩) (Ownv.mono HO'.out HG.out.size) hA'
      (fun t ht => by have h8 := (Ownv.blk_of (HBL.out.r t ht).1 (HBL.out.r t ht).2).2; exact Nat.ne_of_lt (Nat.lt_of_lt_of_le h8 hge)) HO2.out HG2.out
    have hob : ∀ k, (Value.slice A L.length c).ownBlock = some k → W.heap.size ≤ k := fun k hk => Ownv.ob' (BL.grownL HBL.out hrb HG'.out).o hk
    have hLn : some LB ≠ (Value.slice A L.length c).ownBlock := fun he => by have := hob _ he.symm; omega
    have hRn : some RB ≠ (Value.slice A L.length c).ownBlock := fun he => by have := hob _ he.symm; omega
    have hL2 := (HL1.out.grown HG'.out hLR).grown HG2.out hLn
    have hR2 := HR'.out.grown HG2.out hRn
    have e1 : full.length - off b L.length - (sz b L.length - ck b) = full.length - off b (L.length + 1) := by omega
    rw [e1] at hR2
    have hcut := Rdv.le HY1.out
    have hbc : (cut Ar cr (sz b L.length - ck b) ≠ none) → Ar ≠ none := fun h9 h10 => h9 (by rw [h10]; unfold cut; split <;> rfl)
    have hbk := blk_cut HY1.out (l := sz b L.length - ck b) (by omega)
    have hy0 := Rd.cut_ HY1.out (l := sz b L.length - ck b) (m := full.length - off b L.length) (by omega) (Nat.le_refl _)
    rw [List.take_of_length_le (by rw [List.length_drop]; exact Nat.le_refl _), List.drop_drop, e1, ← hstep] at hy0
    have hr5 : ∀ h : cut Ar cr (sz b L.length - ck b) ≠ none, blk (cut Ar cr (sz b L.length - ck b)) ≠ RB ∧ blk (cut Ar cr (sz b L.length - ck b)) < W.heap.size := fun h => by rw [hbk]; exact HA.out (hbc h)
    have hy2 := Rdv.grown (Rdv.grown hy0 HG'.out (fun h9 h10 => (hr5 h9).1 (Option.some.inj h10))) HG2.out (fun h9 h10 => by have h11 := hob _ h10.symm; have h12 := (hr5 h9).2; omega)
    have hG3 := grownBy_own (grown_trans HG.out HG'.out) HG2.out hob
    go_roundw
    case rel => exact ⟨L.length + 1, A2, c2, L ++ [⟨A', n', c', segB b ((full.drop (off b L.length)).take (sz b L.length - ck b))⟩], _, _, by omega, by go_num, by simp, hBL2, by simp, by rw [List.map_append, HX.out, segs_succ]; rfl, hL2, hR2, hy2, hr5, hG3⟩
    case measure => simp [intOf]; omega
  · have he : L.length = bC b := by omega
    have HE := Lib.hid he
    rw [he] at HX
    clear he
    go_wp2
    go_ret
    exact ⟨A, c, L, rfl, HBL.out, HX.out, HG.out⟩
end Go.Proofs.YtkdfefpnhaebfaaGreat.Cr
