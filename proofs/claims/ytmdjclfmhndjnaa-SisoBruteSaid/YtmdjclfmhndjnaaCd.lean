/-
  Tables of metrics in memory ([][8]int), as the reference keeps them. Condition: none.
-/
import Derived.Test.YtmdjclfmhndjnaaCc
namespace Go.Proofs.Ytmdjclfmhndjnaa
open Go.RowKit
set_option linter.unusedVariables false
theorem er65 : ElR Try.prog 72 65 (.agg (ints8 (List.replicate 8 0)).toArray) 8 64 := ⟨Try.underlying72, by kernel_rfl, fun W => by kernel_rfl, rfl, by decide⟩
/-- a table of N rows of eight -/
structure Mt (W : World) (b N : Nat) (g : Nat → List Int) : Prop where
  blk : Blk W b 65 ((List.range N).map fun q => ints8 (g q)).flatten
  l8 : ∀ q, q < N → (g q).length = 8
theorem flat_len (sz : Nat) : ∀ (rs : List (List Value)), (∀ r ∈ rs, r.length = sz) → rs.flatten.length = rs.length * sz
  | [], _ => by simp
  | x :: xs, h => by
    rw [List.flatten_cons, List.length_append, h x (by simp), flat_len sz xs (fun r hr => h r (by simp [hr])), List.length_cons, Nat.add_mul, Nat.one_mul, Nat.add_comm]
section
variable {W W' : World} {b N : Nat} {g g' : Nat → List Int}
theorem mt_rows (h : ∀ q, q < N → (g q).length = 8) : ∀ r ∈ (List.range N).map (fun q => ints8 (g q)), r.length = 8 := by
  intro r hr
  obtain ⟨q, hq, rfl⟩ := List.mem_map.1 hr
  simp [ints8, h q (by simpa using hq)]
theorem mt_get (h : ∀ q, q < N → (g q).length = 8) {i k : Nat} (hi : i < N) (hk : k < 8) : ((List.range N).map fun q => ints8 (g q)).flatten[8 * i + k]? = some (.int .i64 (gi (g i) k)) := by
  rw [flatR 8 _ (mt_rows h) i k (ints8 (g i)) (by simp [hi]) hk]
  have : k < (g i).length := by rw [h i hi]; exact hk
  simp [ints8, gi, List.getD, this]
theorem Mt.cell (h : Mt W b N g) {i k : Nat} (hi : i < N) (hk : k < 8) : W.cell? ⟨b, 8 * i + k, none⟩ = some (.int .i64 (gi (g i) k)) := h.blk.cell (mt_get h.l8 hi hk)
theorem Mt.congr (h : Mt W b N g) (he : ∀ q, q < N → g q = g' q) : Mt W b N g' := by
  have e : ((List.range N).map fun q => ints8 (g q)) = ((List.range N).map fun q => ints8 (g' q)) := List.map_congr_left fun q hq => by rw [he q (by simpa using hq)]
  exact ⟨by rw [← e]; exact h.blk, fun q hq => by rw [← he q hq]; exact h.l8 q hq⟩
def updM (g : Nat → List Int) (i k : Nat) (v : Int) : Nat → List Int := fun q => if q = i then (g i).set k v else g q
theorem Mt.set (h : Mt W b N g) {i k : Nat} (hi : i < N) (hk : k < 8) (v : Int) : Mt (W.setCell ⟨b, 8 * i + k, none⟩ (.int .i64 v)) b N (updM g i k v) := by
  have l8' : ∀ q, q < N → (updM g i k v q).length = 8 := fun q hq => by
    unfold updM
    split
    · rw [List.length_set]; exact h.l8 i hi
    · exact h.l8 q hq
  refine ⟨?_, l8'⟩
  have h1 := h.blk.set (8 * i + k) (.int .i64 v)
  have e : ((List.range N).map fun q => ints8 (g q)).flatten.set (8 * i + k) (.int .i64 v) = ((List.range N).map fun q => ints8 (updM g i k v q)).flatten := by
    apply List.ext_getElem?
    intro p
    by_cases hp : p < N * 8
    · obtain ⟨a, c, hc, rfl⟩ : ∃ a c, c < 8 ∧ p = 8 * a + c := ⟨p / 8, p % 8, Nat.mod_lt _ (by omega), by omega⟩
      have ha : a < N := by omega
      rw [mt_get l8' ha hc, List.getElem?_set, mt_get h.l8 ha hc]
      have hlen : 8 * i + k < ((List.range N).map fun q => ints8 (g q)).flatten.length := by rw [flat_len 8 _ (mt_rows h.l8)]; simp; omega
      by_cases hia : i = a
      · subst hia
        by_cases hkc : k = c
        · subst hkc
          rw [if_pos rfl, if_pos hlen]
          simp [updM, gi_set' _ _ _ _ (by rw [h.l8 i hi]; exact hk)]
        · rw [if_neg (by omega)]
          simp [updM, gi_set' _ _ _ _ (by rw [h.l8 i hi]; exact hc), hkc]
      · rw [if_neg (by omega)]
        simp [updM, Ne.symm hia]
    · rw [List.getElem?_eq_none (by rw [List.length_set, flat_len 8 _ (mt_rows h.l8)]; simp; omega), List.getElem?_eq_none (by rw [flat_len 8 _ (mt_rows l8')]; simp; omega)]
  rw [e] at h1
  exact h1
theorem Mt.below (h : Mt W b N g) (hB : Below W.heap.size W W') : Mt W' b N g := ⟨h.blk.below hB, h.l8⟩
theorem Mt.grown (h : Mt W b N g) {r : Nat} (hg : W.grownBy W' (some r)) (hne : b ≠ r) : Mt W' b N g := ⟨h.blk.grown hg hne, h.l8⟩
theorem Mt.new (h : Blk W b 65 (List.replicate (N * 8) (.int .i64 0))) : Mt W b N (fun _ => List.replicate 8 0) := by
  refine ⟨?_, fun _ _ => List.length_replicate ..⟩
  have e : ((List.range N).map fun _ => ints8 (List.replicate 8 0)).flatten = List.replicate (N * 8) (.int .i64 0) := by
    apply List.ext_getElem?
    intro p
    have hr : ∀ q, q < N → ((fun _ => List.replicate 8 0 : Nat → List Int) q).length = 8 := fun _ _ => by simp
    by_cases hp : p < N * 8
    · obtain ⟨a, c, hc, rfl⟩ : ∃ a c, c < 8 ∧ p = 8 * a + c := ⟨p / 8, p % 8, Nat.mod_lt _ (by omega), by omega⟩
      have := mt_get (g := fun _ => List.replicate 8 0) (N := N) hr (i := a) (k := c) (by omega) hc
      rw [this, List.getElem?_replicate, if_pos hp, gi_eq _ _ (by simpa using hc), List.getElem_replicate]
    · rw [List.getElem?_eq_none (by rw [flat_len 8 _ (mt_rows (g := fun _ => List.replicate 8 0) hr)]; simp; omega), List.getElem?_eq_none (by simp; omega)]
  rw [e]; exact h
end
/-- where the two tables and the branches lie -/
structure Sw (w : World) (bf bg N bA cap : Nat) (wr : World) (F G : Nat → List Int) : Prop where
  f : Mt wr bf N F
  g : Mt wr bg N G
  r : Rw 77 4 wr w.heap.size (some ⟨bA, 0, none⟩) cap (brR 16)
  bl : Below w.heap.size w wr
structure SwS (w : World) (bf bg bA : Nat) : Prop where
  fg : bf ≠ bg
  fA : bf ≠ bA
  gA : bg ≠ bA
  hf : w.heap.size ≤ bf
  hg : w.heap.size ≤ bg
section
variable {w wr w' : World} {bf bg N bA cap : Nat} {F G F' G' : Nat → List Int}
theorem Sw.call (h : Sw w bf bg N bA cap wr F G) (hB : Below wr.heap.size wr w') : Sw w bf bg N bA cap w' F G := ⟨h.f.below hB, h.g.below hB, h.r.below hB, h.bl.trans (hB.mono h.bl.size)⟩
theorem Sw.setF (h : Sw w bf bg N bA cap wr F G) (hs : SwS w bf bg bA) {i k : Nat} (hi : i < N) (hk : k < 8) (v : Int) : Sw w bf bg N bA cap (wr.setCell ⟨bf, 8 * i + k, none⟩ (.int .i64 v)) (updM F i k v) G := by
  have hg := grownBy_set wr bf (8 * i + k) (.int .i64 v)
  exact ⟨h.f.set hi hk v, h.g.grown hg (Ne.symm hs.fg), h.r.grown hg (fun _ => by simp [blk]; exact Ne.symm hs.fA), h.bl.setCell hs.hf _⟩
theorem Sw.setG (h : Sw w bf bg N bA cap wr F G) (hs : SwS w bf bg bA) {i k : Nat} (hi : i < N) (hk : k < 8) (v : Int) : Sw w bf bg N bA cap (wr.setCell ⟨bg, 8 * i + k, none⟩ (.int .i64 v)) F (updM G i k v) := by
  have hg := grownBy_set wr bg (8 * i + k) (.int .i64 v)
  exact ⟨h.f.grown hg hs.fg, h.g.set hi hk v, h.r.grown hg (fun _ => by simp [blk]; exact Ne.symm hs.gA), h.bl.setCell hs.hg _⟩
theorem Sw.congr (h : Sw w bf bg N bA cap wr F G) (hF : ∀ q, q < N → F q = F' q) (hG : ∀ q, q < N → G q = G' q) : Sw w bf bg N bA cap wr F' G' := ⟨h.f.congr hF, h.g.congr hG, h.r, h.bl⟩
end
/-- the tables, step by step -/
def initF (i k q : Nat) : List Int := if q < i then noneL else if q = i then List.replicate k UU ++ List.replicate (8 - k) 0 else List.replicate 8 0
theorem initF_zero : initF 0 0 = fun _ => List.replicate 8 0 := by
  funext q; unfold initF
  by_cases h : q = 0
  · subst h; rfl
  · rw [if_neg (by omega), if_neg h]
theorem initF_next (i : Nat) : initF i 8 = initF (i + 1) 0 := by
  funext q; unfold initF
  by_cases h : q < i
  · rw [if_pos h, if_pos (by omega)]
  · rw [if_neg h]
    by_cases e : q = i
    · rw [if_pos e, if_pos (by omega)]; rfl
    · rw [if_neg e, if_neg (by omega)]
      by_cases e2 : q = i + 1
      · rw [if_pos e2]; rfl
      · rw [if_neg e2]
theorem initF_set (i k : Nat) (hk : k < 8) : updM (initF i k) i k UU = initF i (k + 1) := by
  funext q; unfold updM
  by_cases e : q = i
  · subst e
    rw [if_pos rfl]
    unfold initF
    rw [if_neg (by omega), if_pos rfl, if_neg (by omega), if_pos rfl]
    rcases (by omega : k = 0 ∨ k = 1 ∨ k = 2 ∨ k = 3 ∨ k = 4 ∨ k = 5 ∨ k = 6 ∨ k = 7) with rfl | rfl | rfl | rfl | rfl | rfl | rfl | rfl <;> rfl
  · rw [if_neg e]; unfold initF
    by_cases h : q < i
    · rw [if_pos h, if_pos h]
    · rw [if_neg h, if_neg e, if_neg h, if_neg e]
def fI (o : Ob) (i k q : Nat) : List Int := if q ≤ i then o.f q else if q = i + 1 then fN o i (o.f i) k else noneL
def bN' (o : Ob) (i : Nat) (m : List Int) (j : Nat) : List Int := (brT.take j).foldl (o.bB i m) noneL
def bI (o : Ob) (i k q : Nat) : List Int := if i < q then o.b q else if q = i then bN' o i (o.b (i + 1)) k else noneL
theorem fI_start (o : Ob) : ∀ q, updM (fun _ => noneL) 0 0 0 q = fI o 0 0 q := fun q => by
  unfold updM fI
  by_cases e : q = 0
  · subst e; rfl
  · rw [if_neg e, if_neg (by omega)]
    by_cases e2 : q = 0 + 1
    · rw [if_pos e2]; rfl
    · rw [if_neg e2]
theorem fI_next (o : Ob) (i : Nat) : fI o i 16 = fI o (i + 1) 0 := by
  funext q; unfold fI
  by_cases h : q ≤ i
  · rw [if_pos h, if_pos (by omega)]
  · rw [if_neg h]
    by_cases e : q = i + 1
    · subst e; rw [if_pos rfl, if_pos (Nat.le_refl _)]; rfl
    · rw [if_neg e, if_neg (by omega)]
      by_cases e2 : q = i + 1 + 1
      · rw [if_pos e2]; rfl
      · rw [if_neg e2]
theorem fI_set (o : Ob) (i k : Nat) (hk : k < 16) (h : o.allow i (brN k) = true ∧ UU < gi (o.f i) (brN k).fr) :
    updM (fI o i k) (i + 1) (brN k).tt (max (gi (fN o i (o.f i) k) (brN k).tt) (gi (o.f i) (brN k).fr + o.term i (brN k))) = fI o i (k + 1) := by
  funext q; unfold updM
  by_cases e : q = i + 1
  · subst e
    rw [if_pos rfl]
    unfold fI
    rw [if_neg (by omega), if_pos rfl, if_neg (by omega), if_pos rfl, fN_succ o i _ k hk]
    unfold Ob.fB
    rw [if_pos h]
  · rw [if_neg e]; unfold fI
    by_cases h1 : q ≤ i
    · rw [if_pos h1, if_pos h1]
    · rw [if_neg h1, if_neg e, if_neg h1, if_neg e]
theorem fI_same (o : Ob) (i k : Nat) (hk : k < 16) (h : ¬ (o.allow i (brN k) = true ∧ UU < gi (o.f i) (brN k).fr)) : fI o i (k + 1) = fI o i k := by
  funext q; unfold fI
  rw [fN_succ o i _ k hk]
  unfold Ob.fB
  rw [if_neg h]
theorem bN'_succ (o : Ob) (i : Nat) (m : List Int) (j : Nat) (hj : j < 16) : bN' o i m (j + 1) = o.bB i m (bN' o i m j) (brN j) := by
  unfold bN'; rw [br_take j hj, List.foldl_append]; rfl
theorem b_succ (o : Ob) (i : Nat) (hi : i < o.s.length) : o.b i = o.bwd i (o.b (i + 1)) := by
  unfold Ob.b
  rw [show o.s.length - i = (o.s.length - (i + 1)) + 1 from by omega]
  show o.bwd (o.s.length - 1 - (o.s.length - (i + 1))) _ = _
  rw [show o.s.length - 1 - (o.s.length - (i + 1)) = i from by omega]
theorem b_last (o : Ob) : o.b o.s.length = none0 := by unfold Ob.b; rw [Nat.sub_self]; rfl
theorem bI_start (o : Ob) (i : Nat) (hi : i + 1 = o.s.length) : ∀ q, q < o.s.length + 1 → updM (fun _ => noneL) o.s.length 0 0 q = bI o i 0 q := fun q hq => by
  unfold updM bI
  by_cases e : q = o.s.length
  · subst e; rw [if_pos rfl, if_pos (by omega), b_last]; rfl
  · rw [if_neg e, if_neg (by omega)]
    by_cases e2 : q = i
    · rw [if_pos e2]; rfl
    · rw [if_neg e2]
theorem bI_next (o : Ob) (i : Nat) (hi : i + 1 < o.s.length) : bI o (i + 1) 16 = bI o i 0 := by
  funext q; unfold bI
  by_cases h : i + 1 < q
  · rw [if_pos h, if_pos (by omega)]
  · rw [if_neg h]
    by_cases e : q = i + 1
    · subst e; rw [if_pos rfl, if_pos (by omega), b_succ o (i + 1) hi]; rfl
    · rw [if_neg e, if_neg (by omega)]
      by_cases e2 : q = i
      · rw [if_pos e2]; rfl
      · rw [if_neg e2]
theorem bI_end (o : Ob) (h0 : 0 < o.s.length) (q : Nat) : bI o 0 16 q = o.b q := by
  unfold bI
  by_cases h : 0 < q
  · rw [if_pos h]
  · rw [if_neg h, if_pos (by omega), show q = 0 from by omega, b_succ o 0 h0]; rfl
theorem bI_set (o : Ob) (i k : Nat) (hk : k < 16) (h : o.allow i (brN k) = true ∧ UU < gi (o.b (i + 1)) (brN k).tt) :
    updM (bI o i k) i (brN k).fr (max (gi (bN' o i (o.b (i + 1)) k) (brN k).fr) (gi (o.b (i + 1)) (brN k).tt + o.term i (brN k))) = bI o i (k + 1) := by
  funext q; unfold updM
  by_cases e : q = i
  · subst e
    rw [if_pos rfl]
    unfold bI
    rw [if_neg (by omega), if_pos rfl, if_neg (by omega), if_pos rfl, bN'_succ o q _ k hk]
    unfold Ob.bB
    rw [if_pos h]
  · rw [if_neg e]; unfold bI
    by_cases h1 : i < q
    · rw [if_pos h1, if_pos h1]
    · rw [if_neg h1, if_neg e, if_neg h1, if_neg e]
theorem bI_same (o : Ob) (i k : Nat) (hk : k < 16) (h : ¬ (o.allow i (brN k) = true ∧ UU < gi (o.b (i + 1)) (brN k).tt)) : bI o i (k + 1) = bI o i k := by
  funext q; unfold bI
  rw [bN'_succ o i _ k hk]
  unfold Ob.bB
  rw [if_neg h]
end Go.Proofs.Ytmdjclfmhndjnaa
