/-
  Lists of rows of numbers; contract of each over the closure of transport.Split. Condition: slices that lie in memory.
-/
import Derived.Test.YtcbbkflnenkpgaaUq
import Derived.Test.YtcbbkflnenkpgaaUn
namespace Go.Proofs.Ytcbbkflnenkpgaa
open Go.RowKit Go.Shelf
set_option linter.unusedVariables false
def shN (C g m i : Nat) : Nat := if i + g % C < C then g / C * m else (g / C + 1) * m
theorem shr_cast (C g m i : Nat) : shr C g m i = (shN C g m i : Int) := by unfold shr shN; split <;> rfl
/-- how many values stand ahead of part i -/
def offS (C g m : Nat) : Nat → Nat
  | 0 => 0
  | i + 1 => offS C g m i + shN C g m i
theorem offS_lo (C g m : Nat) : ∀ k, k + g % C ≤ C → offS C g m k = k * (g / C * m)
  | 0, _ => by simp [offS]
  | k + 1, h => by
    simp only [offS]
    rw [offS_lo C g m k (by omega), shN, if_pos (by omega), Nat.add_mul k 1, Nat.one_mul]
theorem offS_hi (C g m : Nat) (hC : 1 ≤ C) : ∀ k, offS C g m (C - g % C + k) = (C - g % C) * (g / C * m) + k * ((g / C + 1) * m)
  | 0 => by
    have := Nat.mod_lt g (show C > 0 by omega)
    rw [Nat.add_zero, offS_lo C g m _ (by omega)]; simp
  | k + 1 => by
    have := Nat.mod_lt g (show C > 0 by omega)
    rw [← Nat.add_assoc]
    simp only [offS]
    rw [offS_hi C g m hC k, shN, if_neg (by omega), Nat.add_mul k 1, Nat.one_mul]; omega
theorem offS_all (C g m : Nat) (hC : 1 ≤ C) : offS C g m C = m * g := by
  have h1 := Nat.mod_lt g (show C > 0 by omega)
  have h2 := Nat.div_add_mod g C
  have h3 := offS_hi C g m hC (g % C)
  rw [show C - g % C + g % C = C by omega] at h3
  rw [h3]
  generalize g / C = a at *
  generalize g % C = r at *
  have e1 : (C - r) * a + r * (a + 1) = g := by
    rw [Nat.mul_add, Nat.mul_one, ← Nat.add_assoc, ← Nat.add_mul, show C - r + r = C by omega]; exact h2
  rw [← Nat.mul_assoc, ← Nat.mul_assoc, ← Nat.add_mul, e1, Nat.mul_comm]
theorem offS_le {C g m i j : Nat} (h : i ≤ j) : offS C g m i ≤ offS C g m j := by
  induction j with
  | zero => obtain rfl : i = 0 := by omega
            exact Nat.le_refl _
  | succ j ih =>
    by_cases hj : i = j + 1
    · subst hj; exact Nat.le_refl _
    · have := ih (by omega); simp only [offS]; omega
/-- the parts of values -/
def prtS (ys : List Int) (C g m k : Nat) : List (List Int) := (List.range k).map fun i => (ys.drop (offS C g m i)).take (shN C g m i)
theorem prtS_succ (ys : List Int) (C g m k : Nat) : prtS ys C g m (k + 1) = prtS ys C g m k ++ [(ys.drop (offS C g m k)).take (shN C g m k)] := by simp [prtS, List.range_succ]
theorem Rdv.grown0 {w w' : World} {A : Option Addr} {n c : Nat} {vs : List Value} (h : Rdv w A n c vs) {row : Option Nat} (hg : w.grownBy w' row) (hne : 0 < c → some (blk A) ≠ row) : Rdv w' A n c vs := by
  by_cases hc : 0 < c
  · exact h.grown hg (fun _ => hne hc)
  · have h1 := h.le
    have h2 := h.len
    obtain rfl : vs = [] := List.eq_nil_of_length_eq_zero (by omega)
    exact ⟨h.len, h.le, h.cm, h.nil, fun h9 => absurd h9 hc, fun h9 => absurd h9 hc, by simp⟩
theorem el41 : El Try.prog 41 34 (.slice none 0 0) 24 := ⟨by kernel_rfl, by kernel_rfl, fun _ => by kernel_rfl, rfl⟩
/-- a list of rows of numbers, all of the call's own, no two in one block -/
structure BI (w : World) (base : Nat) (A : Option Addr) (c : Nat) (L : List Sv) : Prop where
  o : Ownv 34 w base A L.length c (L.map Sv.v)
  r : ∀ s ∈ L, Own .i64 3 w base s.A s.n s.c s.xs
  p : L.Pairwise (fun s t => s.A ≠ none → t.A ≠ none → blk s.A ≠ blk t.A)
section
variable {w w' : World} {base base' c : Nat} {A : Option Addr} {L : List Sv}
theorem BI.nil (w : World) (base : Nat) : BI w base none 0 [] := ⟨Ownv.nilv 34 w base, by simp, List.Pairwise.nil⟩
theorem BI.below (h : BI w base A c L) (hB : Below w.heap.size w w') : BI w' base A c L := ⟨h.o.below hB, fun s hs => Ownv.below (h.r s hs) hB, h.p⟩
theorem BI.mono (h : BI w base A c L) (hb : base' ≤ base) : BI w base' A c L := ⟨h.o.mono hb, fun s hs => Ownv.mono (h.r s hs) hb, h.p⟩
/-- a block below the base has turned -/
theorem BI.grownL (h : BI w base A c L) {B : Nat} (hb : B < base) (hg : w.grownBy w' (some B)) : BI w' base A c L :=
  ⟨h.o.grown hg (fun hA he => by have h1 := (Ownv.blk_of h.o hA).1; have := Option.some.inj he; omega), fun s hs => Ownv.grown (h.r s hs) hg (fun hA he => by have h1 := (Ownv.blk_of (h.r s hs) hA).1; have := Option.some.inj he; omega), h.p⟩
/-- one more row -/
theorem BI.push (h : BI w base A c L) {s : Sv} (hs : Own .i64 3 w base s.A s.n s.c s.xs) (hp : ∀ t ∈ L, t.A ≠ none → s.A ≠ none → blk t.A ≠ blk s.A) {A' : Option Addr} {c' : Nat}
    (hO : Ownv 34 w' base A' (L.length + 1) c' (L.map Sv.v ++ [s.v])) (hg : w.grownBy w' ((Value.slice A L.length c).ownBlock)) : BI w' base A' c' (L ++ [s]) := by
  refine ⟨by simpa using hO, fun t ht => ?_, ?_⟩
  · rcases List.mem_append.1 ht with ht | ht
    · exact Ownv.grown (h.r t ht) hg (fun hA => rows_ne (h.r t ht) h.o (by decide) hA)
    · simp at ht; subst ht
      exact Ownv.grown hs hg (fun hA => rows_ne hs h.o (by decide) hA)
  · rw [List.pairwise_append]
    exact ⟨h.p, List.pairwise_singleton _ _, fun t ht u hu => by simp at hu; subst hu; exact hp t ht⟩
theorem BI.rd (h : BI w base A c L) : Rdv w A L.length c (L.map Sv.v) := h.o.rd
end
/-- block q has values but no place for them -/
def bad49 (b : Nat) (lim : Int) (C g m q : Nat) : Prop := uS b lim q = 0 ∧ 0 < shN C g m q
instance (b : Nat) (lim : Int) (C g m q : Nat) : Decidable (bad49 b lim C g m q) := by unfold bad49; exact inferInstance
structure EzS (W : World) (b : Nat) (lim : Int) (C g m VB LB CB : Nat) (An : Option Addr) (cn : Nat) (ys : List Int) (j : Nat) (A : Option Addr) (c : Nat) (L : List Sv) (wr : World) : Prop where
  bi : BI wr W.heap.size A c L
  xs : L.map (·.xs) = prtS ys C g m j
  lb : Blk wr LB 23 (ints8 (LY b))
  cb : wr.cell? ⟨CB, 3, none⟩ = some (.int .i64 lim)
  vb : ∃ Ar cr, Blk wr VB 34 [.slice Ar (ys.length - offS C g m j) cr] ∧ Rd .i64 wr Ar (ys.length - offS C g m j) cr (ys.drop (offS C g m j)) ∧ (0 < cr → blk Ar ≠ VB ∧ blk Ar < W.heap.size)
  ns : Rd .i64 wr An C cn (shT C g m C)
  gr : W.grownBy wr (some VB)
  ok : ∀ q, q < j → ¬ bad49 b lim C g m q
def EzInv (W : World) (b : Nat) (lim : Int) (C g m VB LB CB : Nat) (An : Option Addr) (cn : Nat) (ys : List Int) (out i : Value) (wr : World) : Prop :=
  ∃ (j : Nat) (A : Option Addr) (c : Nat) (L : List Sv), j ≤ C ∧ i = .int .i64 j ∧ out = .slice A L.length c ∧ L.length = j ∧ EzS W b lim C g m VB LB CB An cn ys j A c L wr
def EzPost (W : World) (b : Nat) (lim : Int) (C g m VB : Nat) (ys : List Int) (e : Ending) (w' : World) : Prop :=
  W.grownBy w' (some VB) ∧ (((∃ q, q < C ∧ bad49 b lim C g m q) ∧ e = .returned (.tuple #[.slice none 0 0, .int .i64 10])) ∨
    ((∀ q, q < C → ¬ bad49 b lim C g m q) ∧ ∃ A' c' L, e = .returned (.tuple #[.slice A' L.length c', .int .i64 0]) ∧ BI w' W.heap.size A' c' L ∧ L.map (·.xs) = prtS ys C g m C))
set_option maxRecDepth 100000 in
set_option maxHeartbeats 2000000 in
theorem each49_any (b : Nat) (lim : Int) (C g m VB LB CB : Nat) (An : Option Addr) (cn : Nat) (A0 : Option Addr) (n c0 : Nat) (ys : List Int) (W : World) (h1 : 1 ≤ b) (h2 : b ≤ 79560) (hlim : 1 ≤ lim) (hC : 1 ≤ C) (hC2 : C ≤ 13)
    (hn : n = m * g) (hn2 : n ≤ 200000) (hL : Blk W LB 23 (ints8 (LY b))) (hV : Blk W VB 34 [.slice A0 n c0]) (hK : W.cell? ⟨CB, 3, none⟩ = some (.int .i64 lim)) (hCV : CB ≠ VB) (hy : Rd .i64 W A0 n c0 ys) (hAV : 0 < c0 → blk A0 ≠ VB)
    (hns : Rd .i64 W An C cn (shT C g m C)) (hnV : An ≠ none → blk An ≠ VB) :
    Calls Try.prog 49 #[.slice An C cn, .func (.func 50) #[] #[.pointer (some ⟨VB, 0, none⟩), .pointer (some ⟨LB, 0, none⟩), .pointer (some ⟨CB, 0, none⟩)]] W (EzPost W b lim C g m VB ys) := by
  have hfl := hy.len
  have hoff := offS_all C g m hC
  subst hfl
  have hAR' : 0 < c0 → blk A0 ≠ VB ∧ blk A0 < W.heap.size := fun hA => ⟨hAV hA, by
    obtain ⟨bb, oo, rfl, h9⟩ := Rdv.ptr hy hA
    exact h9⟩
  have hvb := hV.lt
  have hlb := hL.lt
  have hcb := World.block_lt_of_cell? W _ hK
  have hLR : some LB ≠ some VB := by
    intro e
    have e := Option.some.inj e
    subst e
    have h3 : W.heap[LB]? = _ := hL
    have h4 : W.heap[LB]? = _ := hV
    rw [h4] at h3
    injection h3 with h3
    injection h3 with _ h9
    exact absurd h9 (by decide)
  have HNV := Lib.hid (fun hA => (⟨hnV hA, by have h8 := Rdv.le hns; obtain ⟨bb, oo, rfl, h9⟩ := Rdv.ptr hns (by omega); exact h9⟩ : blk An ≠ VB ∧ blk An < W.heap.size))
  have HS0 : Hid (EzS W b lim C g m VB LB CB An cn ys 0 none 0 [] W) := Lib.hid ⟨BI.nil W _, rfl, hL, hK, ⟨A0, c0, hV, hy, hAR'⟩, hns, World.grownBy.refl _ _, by omega⟩
  clear hnV hAR' hy hAV hL hV hK
  go_enter Try.func49, Try.ntmps49
  go_wp2
  go_loopw [6, 13] (fun out i wr => EzInv W b lim C g m VB LB CB An cn ys out i wr) (fun _ i _ => C - (intOf i).toNat)
  case atStart => exact ⟨0, none, 0, [], by omega, rfl, rfl, rfl, HS0.out⟩
  case round =>
    obtain ⟨j, A, c, L, hj, rfl, rfl, hlen, hS⟩ := hrel
    have HS := Lib.hid hS
    clear hS HS0 hns
    subst hlen
    by_cases hlt : L.length < C
    · have hmono := offS_le (C := C) (g := g) (m := m) (show L.length + 1 ≤ C by omega)
      have hstep : offS C g m (L.length + 1) = offS C g m L.length + shN C g m L.length := rfl
      obtain ⟨Ar, cr, hR1, hy1, hA1⟩ := HS.out.vb
      have hM : shN C g m L.length ≤ ys.length - offS C g m L.length := by omega
      have hc := Lib.hid (cl50_any b L.length LB VB CB (shN C g m L.length) Ar (ys.length - offS C g m L.length) cr (ys.drop (offS C g m L.length)) lim wr h1 h2 hlim HS.out.lb hR1 HS.out.cb hCV hy1 hM (by omega))
      have HR1 := Lib.hid hR1
      have HY1 := Lib.hid hy1
      have HA1 := Lib.hid hA1
      have cn1 := Rd.cell HS.out.ns (j := L.length) hlt
      rw [shT_gi _ _ _ _ _ hlt, shr_cast] at cn1
      have ix1 := fun W => Rdv.ix HS.out.ns el34 (j := L.length) hlt .i64 W
      clear hR1 hy1 hA1
      unfold SqPost at hc
      obtain ⟨M, hMe⟩ : ∃ M, M = shN C g m L.length := ⟨_, rfl⟩
      rw [← hMe] at hc cn1 hstep hM
      by_cases hbad : uS b lim L.length = 0 ∧ 0 < M
      · have HBD : Hid (∃ q, q < C ∧ bad49 b lim C g m q) := Lib.hid ⟨L.length, hlt, by unfold bad49; rw [← hMe]; exact hbad⟩
        have hc' : Hid (Calls Try.prog 50 #[.int .i64 L.length, .int .i64 M, .pointer (some ⟨VB, 0, none⟩), .pointer (some ⟨LB, 0, none⟩), .pointer (some ⟨CB, 0, none⟩)] wr fun e w' => e = .returned (.tuple #[.slice none 0 0, .int .i64 10]) ∧ wr.grownBy w' (some VB)) :=
          Lib.hid (hc.out.mono (fun e w' h => ⟨by rcases h.1 with h | h; exact h.2; exact absurd hbad h.1, h.2.2⟩))
        clear hc hbad hMe
        go_wp2_with (go_at_call 50; refine hc'.out.mono ?_; rintro e w1 ⟨rfl, hG'⟩; have HG' := Lib.hid (grown_trans HS.out.gr hG'); clear hG')
        go_ret2
        exact ⟨HG'.out, .inl ⟨HBD.out, rfl⟩⟩
      · have HBD : Hid (¬ bad49 b lim C g m L.length) := Lib.hid (by unfold bad49; rw [← hMe]; exact hbad)
        have hc' : Hid (Calls Try.prog 50 #[.int .i64 L.length, .int .i64 M, .pointer (some ⟨VB, 0, none⟩), .pointer (some ⟨LB, 0, none⟩), .pointer (some ⟨CB, 0, none⟩)] wr fun e w' => (∃ A' c', e = .returned (.tuple #[.slice A' M c', .int .i64 0]) ∧ Own .i64 3 w' wr.heap.size A' M c' ((ys.drop (offS C g m L.length)).take M)) ∧ Blk w' VB 34 [.slice (cut Ar cr M) (ys.length - offS C g m L.length - M) (cr - M)] ∧ wr.grownBy w' (some VB)) :=
          Lib.hid (hc.out.mono (fun e w' h => ⟨by rcases h.1 with h | h; exact absurd h.1 hbad; exact h.2, h.2⟩))
        have HME := Lib.hid hMe
        clear hc hbad hMe
        go_wp2_with (first
          | (go_at_call 50; refine hc'.out.mono ?_; rintro e w1 ⟨⟨A', c', rfl, hO'⟩, hR', hG'⟩; have HO' := Lib.hid hO'; have HR' := Lib.hid hR'; have HG' := Lib.hid hG'; have HBI1 := Lib.hid (BI.grownL HS.out.bi hvb hG'); have HZ1 := Lib.hid (Nat.le_trans HS.out.gr.size hG'.size); clear hO' hR' hG' hc')
          | (at_builtin; refine list_of rfl fun K hK => wp_app1 (w := w1) (base := W.heap.size) _ _ 41 rfl el41 rfl (.slice A' M c') rfl rfl HBI1.out.o (by omega) (by omega) HZ1.out ?_; intro A2 c2 w2 hO2 hg2; have HO2 := Lib.hid hO2; have HG2 := Lib.hid hg2; clear hO2 hg2; refine hK _ _ ?_; clear hK K))
        have hge : A' ≠ none → wr.heap.size ≤ blk A' := fun hA => (Ownv.blk_of HO'.out hA).1
        have hBL2 : BI w2 W.heap.size A2 c2 (L ++ [⟨A', M, c', (ys.drop (offS C g m L.length)).take M⟩]) :=
          BI.push HBI1.out (s := ⟨A', M, c', (ys.drop (offS C g m L.length)).take M⟩) (Ownv.mono HO'.out HS.out.gr.size)
            (fun t ht h8 h9 => by have h10 := (Ownv.blk_of (HS.out.bi.r t ht) h8).2; exact Nat.ne_of_lt (Nat.lt_of_lt_of_le h10 (hge h9))) HO2.out HG2.out
        have hob : ∀ k, (Value.slice A L.length c).ownBlock = some k → W.heap.size ≤ k := fun k hk => Ownv.ob' HBI1.out.o hk
        have hLn : some LB ≠ (Value.slice A L.length c).ownBlock := fun he => by have := hob _ he.symm; omega
        have hRn : some VB ≠ (Value.slice A L.length c).ownBlock := fun he => by have := hob _ he.symm; omega
        have hR2 := HR'.out.grown HG2.out hRn
        have e1 : ys.length - offS C g m L.length - M = ys.length - offS C g m (L.length + 1) := by omega
        rw [e1] at hR2
        have hcut := Rdv.le HY1.out
        have hbk := blk_cut HY1.out (l := M) (by omega)
        have hy0 := Rd.cut_ HY1.out (l := M) (m := ys.length - offS C g m L.length) (by omega) (Nat.le_refl _)
        rw [List.take_of_length_le (by rw [List.length_drop]; exact Nat.le_refl _), List.drop_drop, e1, ← hstep] at hy0
        have hr5 : ∀ h : 0 < cr - M, blk (cut Ar cr M) ≠ VB ∧ blk (cut Ar cr M) < W.heap.size := fun h => by rw [hbk]; exact HA1.out (by omega)
        have hy2 := Rdv.grown0 (Rdv.grown0 hy0 HG'.out (fun h9 h10 => (hr5 h9).1 (Option.some.inj h10))) HG2.out (fun h9 h10 => by have h11 := hob _ h10.symm; have h12 := (hr5 h9).2; omega)
        have hG3 := grownBy_own (grown_trans HS.out.gr HG'.out) HG2.out hob
        have hlb2 := (HS.out.lb.grown HG'.out hLR).grown HG2.out hLn
        have hns2 : Rd .i64 w2 An C cn (shT C g m C) := Rdv.grown (Rdv.grown HS.out.ns HG'.out (fun h9 h10 => (HNV.out h9).1 (Option.some.inj h10))) HG2.out (fun h9 h10 => by have h11 := hob _ h10.symm; have h12 := (HNV.out h9).2; omega)
        have hcb2 : w2.cell? ⟨CB, 3, none⟩ = some (.int .i64 lim) := by
          have h7 := World.block_lt_of_cell? _ _ HS.out.cb
          have h8 : w1.cell? ⟨CB, 3, none⟩ = some (.int .i64 lim) := (World.cell?_of_block (HG'.out.block CB h7 (fun e => hCV (Option.some.inj e)))).trans HS.out.cb
          exact (World.cell?_of_block (HG2.out.block CB (World.block_lt_of_cell? _ _ h8) (fun he => by have := hob _ he.symm; omega))).trans h8
        go_roundw
        case rel => exact ⟨L.length + 1, A2, c2, L ++ [⟨A', M, c', (ys.drop (offS C g m L.length)).take M⟩], by omega, by go_num, by simp, by simp, ⟨hBL2, by rw [List.map_append, HS.out.xs, prtS_succ, ← HME.out]; rfl, hlb2, hcb2, ⟨_, _, hR2, hy2, hr5⟩, hns2, hG3, lt_succ_cases HS.out.ok HBD.out⟩⟩
        case measure => simp [intOf]; omega
    · have he : L.length = C := by omega
      subst he
      have HX := Lib.hid HS.out.xs
      go_wp2
      go_ret2
      exact ⟨HS.out.gr, .inr ⟨HS.out.ok, A, c, L, rfl, HS.out.bi, HX.out⟩⟩
end Go.Proofs.Ytcbbkflnenkpgaa
