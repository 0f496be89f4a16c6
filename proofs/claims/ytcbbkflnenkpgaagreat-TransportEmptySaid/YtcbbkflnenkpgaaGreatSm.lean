/-
  Lists of rows of bytes; contract of built. Condition: slices that lie in memory.
-/
import Derived.Test.YtcbbkflnenkpgaaGreatSl
namespace Go.Proofs.YtcbbkflnenkpgaaGreat
open Go.RowKit
set_option linter.unusedVariables false
theorem Ownv.blk_of {e : TypeId} {w : World} {base : Nat} {A : Option Addr} {n c : Nat} {vs : List Value} (h : Ownv e w base A n c vs) (hA : A ≠ none) : base ≤ blk A ∧ blk A < w.heap.size := by
  obtain ⟨hl, h2⟩ := h.cases
  rcases h2 with ⟨rfl, rfl, rfl⟩ | ⟨g, cur, rfl, hb, hh, hnc, hcm, hs, ht⟩
  · exact absurd rfl hA
  · exact ⟨hb, (Array.getElem?_eq_some_iff.1 hh).1⟩
theorem own_some {w : World} {base : Nat} {A : Option Addr} {n c : Nat} {vs : List Int} (h : Own .u8 5 w base A n c vs) {q : Nat} (hq : q < n) : A ≠ none := by
  intro hA
  subst hA
  obtain ⟨hl, h2⟩ := Ownv.cases h
  rcases h2 with ⟨_, rfl, _⟩ | ⟨g, cur, h3, _⟩
  · omega
  · cases h3
/-- how many bits stand ahead of block i -/
def off (b : Nat) : Nat → Nat
  | 0 => 0
  | i + 1 => off b i + (sz b i - ck b)
theorem off_le {b i j : Nat} (h : i ≤ j) : off b i ≤ off b j := by
  induction j with
  | zero => obtain rfl : i = 0 := by omega
            exact Nat.le_refl _
  | succ j ih =>
    by_cases hj : i = j + 1
    · subst hj; exact Nat.le_refl _
    · have := ih (by omega); simp only [off]; omega
theorem off_lo (b : Nat) : ∀ k, k ≤ shs b → off b k = k * (sh b - ck b)
  | 0, _ => by simp [off]
  | k + 1, h => by
    simp only [off]
    rw [off_lo b k (by omega), sz, if_pos (by omega), Nat.add_mul, Nat.one_mul]
theorem off_hi (b : Nat) : ∀ k, off b (shs b + k) = shs b * (sh b - ck b) + k * (lo b - ck b)
  | 0 => by rw [Nat.add_zero, off_lo b _ (Nat.le_refl _)]; simp
  | k + 1 => by
    rw [← Nat.add_assoc]
    simp only [off]
    rw [off_hi b k, sz, if_neg (by omega), Nat.add_mul k 1, Nat.one_mul]; omega
theorem off_all {b : Nat} (h1 : 1 ≤ b) : off b (bC b) = b + fi b := by
  have h2 := shs_lt h1
  have h3 := fi_eq h1
  have e : bC b = shs b + los b := by unfold los; omega
  rw [e, off_hi]
  have h4 : ck b ≤ sh b ∨ shs b = 0 := by
    by_cases h : b ≤ 6144
    · right; unfold shs; rw [if_pos h]
    · left; have := sh_lt h; unfold ck; rw [if_neg h]; omega
  have h5 : ck b ≤ lo b := by
    have := (sz_ge (b := b) (i := shs b) h1).1
    unfold sz at this; simp only [Nat.lt_irrefl, if_false] at this; split at this <;> omega
  have h6 : los b * (lo b - ck b) + los b * ck b = los b * lo b := by rw [← Nat.mul_add]; congr 1; omega
  have h7 : shs b * (sh b - ck b) + shs b * ck b = shs b * sh b := by
    rcases h4 with h4 | h4
    · rw [← Nat.mul_add]; congr 1; omega
    · rw [h4]; simp
  have h8 : tl b = b + (shs b + los b) * ck b := by unfold tl; rw [e]
  rw [Nat.add_mul] at h8
  omega
/-- the code blocks of padded bits -/
def segs (b : Nat) (full : List Int) (k : Nat) : List (List Int) := (List.range k).map fun i => segB b ((full.drop (off b i)).take (sz b i - ck b))
theorem segs_succ (b : Nat) (full : List Int) (k : Nat) : segs b full (k + 1) = segs b full k ++ [segB b ((full.drop (off b k)).take (sz b k - ck b))] := by simp [segs, List.range_succ]
/-- a list of rows of bytes, all of the call's own, each in a block of its own -/
structure BL (w : World) (base : Nat) (A : Option Addr) (c : Nat) (L : List Sv) : Prop where
  o : Ownv 25 w base A L.length c (L.map Sv.v)
  r : ∀ s ∈ L, Own .u8 5 w base s.A s.n s.c s.xs ∧ s.A ≠ none
  p : L.Pairwise (fun s t => blk s.A ≠ blk t.A)
theorem rows_ne {w : World} {e1 e2 : TypeId} {b1 b2 n1 c1 n2 c2 : Nat} {A1 A2 : Option Addr} {v1 v2 : List Value} (h1 : Ownv e1 w b1 A1 n1 c1 v1) (h2 : Ownv e2 w b2 A2 n2 c2 v2) (hne : e1 ≠ e2) (hA : A1 ≠ none) : some (blk A1) ≠ (Value.slice A2 n2 c2).ownBlock := by
  intro h
  obtain ⟨-, g1⟩ := h1.cases
  obtain ⟨-, g2⟩ := h2.cases
  rcases g1 with ⟨rfl, -⟩ | ⟨g, cur, rfl, -, hh, -⟩
  · exact hA rfl
  · rcases g2 with ⟨rfl, -⟩ | ⟨g', cur', rfl, -, hh', -⟩
    · simp [Value.ownBlock] at h
    · have e : g = g' := by simpa [Value.ownBlock, blk] using h
      subst e
      rw [hh] at hh'
      injection hh' with hh'
      injection hh' with _ h9
      exact hne h9
section
variable {w w' : World} {base base' c : Nat} {A : Option Addr} {L : List Sv}
theorem BL.nil (w : World) (base : Nat) : BL w base none 0 [] := ⟨Ownv.nilv 25 w base, by simp, List.Pairwise.nil⟩
theorem BL.below (h : BL w base A c L) (hB : Below w.heap.size w w') : BL w' base A c L := ⟨h.o.below hB, fun s hs => ⟨Ownv.below (h.r s hs).1 hB, (h.r s hs).2⟩, h.p⟩
theorem BL.mono (h : BL w base A c L) (hb : base' ≤ base) : BL w base' A c L := ⟨h.o.mono hb, fun s hs => ⟨Ownv.mono (h.r s hs).1 hb, (h.r s hs).2⟩, h.p⟩
/-- a block of yet another type has turned -/
theorem BL.grownB (h : BL w base A c L) {B : Nat} {t : TypeId} {cs : List Value} (hB : Blk w B t cs) (h5 : t ≠ 5) (h53 : t ≠ 25) (hg : w.grownBy w' (some B)) : BL w' base A c L :=
  ⟨h.o.grown hg (fun hA he => own_ne_blk hB h.o h53 hA (Option.some.inj he)), fun s hs => ⟨Ownv.grown (h.r s hs).1 hg (fun hA he => own_ne_blk hB (h.r s hs).1 h5 hA (Option.some.inj he)), (h.r s hs).2⟩, h.p⟩
/-- a block below the base has turned -/
theorem BL.grownL (h : BL w base A c L) {B : Nat} (hb : B < base) (hg : w.grownBy w' (some B)) : BL w' base A c L :=
  ⟨h.o.grown hg (fun hA he => by have h1 := (Ownv.blk_of h.o hA).1; have := Option.some.inj he; omega), fun s hs => ⟨Ownv.grown (h.r s hs).1 hg (fun hA he => by have h1 := (Ownv.blk_of (h.r s hs).1 hA).1; have := Option.some.inj he; omega), (h.r s hs).2⟩, h.p⟩
/-- one more row -/
theorem BL.push (h : BL w base A c L) {s : Sv} (hs : Own .u8 5 w base s.A s.n s.c s.xs) (hA : s.A ≠ none) (hp : ∀ t ∈ L, blk t.A ≠ blk s.A) {A' : Option Addr} {c' : Nat}
    (hO : Ownv 25 w' base A' (L.length + 1) c' (L.map Sv.v ++ [s.v])) (hg : w.grownBy w' ((Value.slice A L.length c).ownBlock)) : BL w' base A' c' (L ++ [s]) := by
  refine ⟨by simpa using hO, fun t ht => ?_, ?_⟩
  · rcases List.mem_append.1 ht with ht | ht
    · exact ⟨Ownv.grown (h.r t ht).1 hg (fun hA => rows_ne (h.r t ht).1 h.o (by decide) hA), (h.r t ht).2⟩
    · simp at ht; subst ht
      exact ⟨Ownv.grown hs hg (fun hA => rows_ne hs h.o (by decide) hA), hA⟩
  · rw [List.pairwise_append]
    exact ⟨h.p, List.pairwise_singleton _ _, fun t ht u hu => by simp at hu; subst hu; exact hp t ht⟩
theorem BL.rd (h : BL w base A c L) : Rdv w A L.length c (L.map Sv.v) := h.o.rd
end
theorem grownBy_own {w0 w1 w2 : World} {row row2 : Option Nat} (h1 : w0.grownBy w1 row) (h2 : w1.grownBy w2 row2) (h3 : ∀ k, row2 = some k → w0.heap.size ≤ k) : w0.grownBy w2 row :=
  ⟨h2.os.trans h1.os, h2.tape.trans h1.tape, h2.output.trans h1.output, Nat.le_trans h1.size h2.size, fun k hk hne => (h2.block k (Nat.lt_of_lt_of_le hk h1.size) (fun e => by have := h3 k e.symm; omega)).trans (h1.block k hk hne)⟩
theorem validB_drop {xs : List Int} (n : Nat) (h : ValidB xs = true) : ValidB (xs.drop n) = true := by
  unfold ValidB at *
  rw [List.all_eq_true] at *
  exact fun x hx => h x (List.mem_of_mem_drop hx)
def BuInv (W : World) (b LB RB : Nat) (lay : List Int) (full : List Int) (A0 : Option Addr) (out i : Value) (wr : World) : Prop :=
  ∃ (j : Nat) (A : Option Addr) (c : Nat) (L : List Sv) (Ar : Option Addr) (cr : Nat), j ≤ bC b ∧ i = .int .i64 j ∧ out = .slice A L.length c ∧ BL wr W.heap.size A c L ∧ L.length = j ∧ L.map (·.xs) = segs b full j ∧
    Blk wr LB 79 (ints8 lay) ∧ Blk wr RB 25 [.slice Ar (full.length - off b j) cr] ∧ Rd .u8 wr Ar (full.length - off b j) cr (full.drop (off b j)) ∧ (Ar ≠ none → blk Ar ≠ RB ∧ blk Ar < W.heap.size) ∧ W.grownBy wr (some RB)
def BuPost (W : World) (b RB : Nat) (full : List Int) (e : Ending) (w' : World) : Prop := ∃ A' c' L, e = .returned (.slice A' L.length c') ∧ BL w' W.heap.size A' c' L ∧ L.map (·.xs) = segs b full (bC b) ∧ W.grownBy w' (some RB)
theorem segB_len {b i : Nat} (h1 : 1 ≤ b) (d : List Int) (hd : d.length = sz b i - ck b) : (segB b d).length = sz b i := by
  have := (sz_ge (i := i) h1).1
  unfold segB
  split
  · rename_i h; unfold ck at hd; rw [if_pos h] at hd; omega
  · rename_i h
    rw [List.length_append, crcSum_len]
    unfold ck at hd this
    rw [if_neg h] at hd this
    have : sLen 2 = 24 := rfl
    omega
set_option maxRecDepth 100000 in
set_option maxHeartbeats 1000000 in
theorem built_any (b LB RB : Nat) (A0 : Option Addr) (n c0 : Nat) (full : List Int) (W : World) (h1 : 1 ≤ b) (h2 : b ≤ 79560) (hn : n = b + fi b)
    (hL : Blk W LB 79 (ints8 (LY b))) (hR : Blk W RB 25 [.slice A0 n c0]) (hy : Rd .u8 W A0 n c0 full) (hAR : A0 ≠ none → blk A0 ≠ RB) (hv : ValidB full = true) :
    Calls Tryz.prog 46 #[.int .i64 (bC b : Int), .func (.func 47) #[] #[.pointer (some ⟨LB, 0, none⟩), .pointer (some ⟨RB, 0, none⟩)]] W (BuPost W b RB full) := by
  have hC := bC_le h2
  have hfl := hy.len
  have hf64 := fi_lt h1 h2
  have hoff := off_all h1
  subst hfl
  have hAR' : A0 ≠ none → blk A0 ≠ RB ∧ blk A0 < W.heap.size := fun hA => ⟨hAR hA, by
    have h8 := Rdv.le hy
    obtain ⟨bb, oo, rfl, h9⟩ := Rdv.ptr hy (by omega)
    exact h9⟩
  have hlb := hL.lt
  have hrb := hR.lt
  have hLR : some LB ≠ some RB := by
    intro e
    have e := Option.some.inj e
    subst e
    have h3 : W.heap[LB]? = _ := hL
    have h4 : W.heap[LB]? = _ := hR
    rw [h4] at h3
    injection h3 with h3
    injection h3 with _ h9
    exact absurd h9 (by decide)
  go_enter Tryz.func46, Tryz.ntmps46
  go_wp2
  go_loopw [4, 7] (fun out i wr => BuInv W b LB RB (LY b) full A0 out i wr) (fun _ i _ => bC b - (intOf i).toNat)
  case atStart => exact ⟨0, none, 0, [], A0, c0, by omega, rfl, rfl, BL.nil W _, rfl, rfl, hL, hR, hy, hAR', World.grownBy.refl _ _⟩
  case round =>
    obtain ⟨j, A, c, L, Ar, cr, hj, rfl, rfl, hBL, hlen, hxs, hL1, hR1, hy1, hA1, hG1⟩ := hrel
    have HBL := Lib.hid hBL
    have HX := Lib.hid hxs
    have HG := Lib.hid hG1
    have HA := Lib.hid hA1
    subst hlen
    by_cases hlt : L.length < bC b
    · have hsg := (sz_ge (i := L.length) h1).1
      have hstep : off b (L.length + 1) = off b L.length + (sz b L.length - ck b) := rfl
      have hmono := off_le (b := b) (show L.length + 1 ≤ bC b by omega)
      have hc := Lib.hid (splitc_any b L.length LB RB (sz b L.length - ck b) Ar (full.length - off b L.length) cr (full.drop (off b L.length)) wr h1 h2 hlt (by omega) hL1 hR1 hy1 (by omega) (by omega) (validB_drop _ hv))
      have hsl := Lib.hid (segB_len (i := L.length) h1 ((full.drop (off b L.length)).take (sz b L.length - ck b)) (by rw [List.length_take, List.length_drop]; omega))
      have hrl := hR1.lt
      have HL1 := Lib.hid hL1
      have HR1 := Lib.hid hR1
      have HY1 := Lib.hid hy1
      clear hBL hxs hL1 hR1 hy1 hA1 hG1
      go_wp2_with (first
        | (go_at_call 47; refine hc.out.mono ?_; rintro e w1 ⟨A', n', c', rfl, hO', hR', hG'⟩; have HO' := Lib.hid hO'; have HR' := Lib.hid hR'; have HG' := Lib.hid hG'; clear hO' hR' hG')
        | (at_builtin; refine list_of rfl fun K hK => wp_app1 (w := w1) (base := W.heap.size) _ _ 28 rfl el55 rfl (.slice A' n' c') rfl rfl (BL.grownL HBL.out hrb HG'.out).o (by omega) (by omega) (Nat.le_trans HG.out.size HG'.out.size) ?_; intro A2 c2 w2 hO2 hg2; have HO2 := Lib.hid hO2; have HG2 := Lib.hid hg2; clear hO2 hg2; refine hK _ _ ?_; clear hK K))
      have hn' : n' = sz b L.length := by have := Rd.len (Own.rd HO'.out); rw [hsl.out] at this; omega
      have hA' : A' ≠ none := own_some HO'.out (q := 0) (by omega)
      have hge := (Ownv.blk_of HO'.out hA').1
      have hBL2 : BL w2 W.heap.size A2 c2 (L ++ [⟨A', n', c', segB b ((full.drop (off b L.length)).take (sz b L.length - ck b))⟩]) :=
        BL.push (BL.grownL HBL.out hrb HG'.out) (s := ⟨A', n', c', segB b ((full.drop (off b L.length)).take (sz b L.length - ck b))⟩) (Ownv.mono HO'.out HG.out.size) hA'
          (fun t ht => by have h8 := (Ownv.blk_of (HBL.out.r t ht).1 (HBL.out.r t ht).2).2; exact Nat.ne_of_lt (Nat.lt_of_lt_of_le h8 hge)) HO2.out HG2.out
      have hob : ∀ k, (Value.slice A L.length c).ownBlock = some k → W.heap.size ≤ k := fun k hk => Ownv.ob' (BL.grownL HBL.out hrb HG'.out).o hk
      have hLn : some LB ≠ (Value.slice A L.length c).ownBlock := fun he => by have := hob _ he.symm; omega
      have hRn : some RB ≠ (Value.slice A L.length c).ownBlock := fun he => by have := hob _ he.symm; omega
      have hL2 := (HL1.out.grown HG'.out hLR).grown HG2.out hLn
      have hR2 := HR'.out.grown HG2.out hRn
      have e1 : full.length - off b L.length - (sz b L.length - ck b) = full.length - off b (L.length + 1) := by omega
      rw [e1] at hR2
      have hcut := Rdv.le HY1.out
      have hbc : (cut Ar cr (sz b L.length - ck b) ≠ none) → Ar ≠ none := fun h9 h10 => h9 (by rw [h10]; unfold cut; split <;> rfl)
      have hbk := blk_cut HY1.out (l := sz b L.length - ck b) (by omega)
      have hy0 := Rd.cut_ HY1.out (l := sz b L.length - ck b) (m := full.length - off b L.length) (by omega) (Nat.le_refl _)
      rw [List.take_of_length_le (by rw [List.length_drop]; exact Nat.le_refl _), List.drop_drop, e1, ← hstep] at hy0
      have hr5 : ∀ h : cut Ar cr (sz b L.length - ck b) ≠ none, blk (cut Ar cr (sz b L.length - ck b)) ≠ RB ∧ blk (cut Ar cr (sz b L.length - ck b)) < W.heap.size := fun h => by rw [hbk]; exact HA.out (hbc h)
      have hy2 := Rdv.grown (Rdv.grown hy0 HG'.out (fun h9 h10 => (hr5 h9).1 (Option.some.inj h10))) HG2.out (fun h9 h10 => by have h11 := hob _ h10.symm; have h12 := (hr5 h9).2; omega)
      have hG3 := grownBy_own (grown_trans HG.out HG'.out) HG2.out hob
      go_roundw
      case rel => exact ⟨L.length + 1, A2, c2, L ++ [⟨A', n', c', segB b ((full.drop (off b L.length)).take (sz b L.length - ck b))⟩], _, _, by omega, by go_num, by simp, hBL2, by simp, by rw [List.map_append, HX.out, segs_succ]; rfl, hL2, hR2, hy2, hr5, hG3⟩
      case measure => simp [intOf]; omega
    · have he : L.length = bC b := by omega
      have HE := Lib.hid he
      rw [he] at HX
      clear he
      go_wp2
      go_ret
      exact ⟨A, c, L, rfl, HBL.out, HX.out, HG.out⟩
end Go.Proofs.YtcbbkflnenkpgaaGreat
