/-
  Bundle of the texts Ca Cb Cc Cd Ce Cf Cg Cj Ck Ik. Conditions: none.
-/
import Derived.Test.YtpdalbckmfadbaaBunah
import Derived.Deep.AppendLies
import Derived.Test.YtpdalbckmfadbaaBunaa
namespace Go.Proofs.Ytpdalbckmfadbaa
open Go.RowKit
set_option linter.unusedVariables false
end Go.Proofs.Ytpdalbckmfadbaa

namespace Go.Proofs.Ytpdalbckmfadbaa
open Go.RowKit
set_option linter.unusedVariables false
/-- what an element type of sz cells owes -/
structure ElR (P : Program) (t e : TypeId) (z : Value) (sz bytes : Nat) : Prop where
  u : P.underlying t = some (.slice e)
  i : (P.info? e).map (fun i => (i.zero, i.size, i.bytes)) = some (some z, sz, bytes)
  s : ∀ W, (sizeOf e).run P W = .ok sz W
  c : z.cells.size = sz
  p : 0 < sz
/-- a slice of rows, the call's own -/
structure Rw (e : TypeId) (sz : Nat) (W : World) (base : Nat) (A : Option Addr) (cap : Nat) (rs : List (List Value)) : Prop where
  ow : W.ownsRow base e sz (.slice A rs.length cap) rs.length rs.flatten
  l : ∀ r ∈ rs, r.length = sz
theorem flatR (sz : Nat) : ∀ (rs : List (List Value)) (h : ∀ r ∈ rs, r.length = sz) (j q : Nat) (r : List Value), rs[j]? = some r → q < sz → rs.flatten[sz * j + q]? = r[q]?
  | [], h, j, q, m, hm, hq => by simp at hm
  | x :: ms, h, 0, q, m, hm, hq => by
    simp at hm; subst hm
    have hx : x.length = sz := h x (by simp)
    rw [List.flatten_cons, List.getElem?_append_left (by omega), Nat.mul_zero, Nat.zero_add]
  | x :: ms, h, j + 1, q, m, hm, hq => by
    have hx : x.length = sz := h x (by simp)
    rw [List.flatten_cons, List.getElem?_append_right (by rw [hx, Nat.mul_add]; omega), hx, show sz * (j + 1) + q - sz = sz * j + q from by rw [Nat.mul_add]; omega]
    exact flatR sz ms (fun m' hm' => h m' (by simp [hm'])) j q m (by simpa using hm) hq
section
variable {P : Program} {W W' : World} {base cap e sz : Nat} {A : Option Addr} {rs : List (List Value)}
theorem Rw.cases (h : Rw e sz W base A cap rs) : (A = none ∧ rs = [] ∧ cap = 0) ∨ ∃ bg cur, A = some ⟨bg, 0, none⟩ ∧ W.heap[bg]? = some (.cells cur e (0, 0)) ∧ base ≤ bg ∧ rs.length ≤ cap ∧ cap ≤ maxLen ∧ cur.size = cap * sz ∧ cur.toList.take (rs.length * sz) = rs.flatten := by
  obtain ⟨h1, h2⟩ := h.ow
  rcases h2 with ⟨h2, h3⟩ | ⟨g, cap', cur, h2, h3, h4, h5, h6, h7, h8⟩
  · left
    simp only [Value.slice.injEq] at h2
    exact ⟨h2.1, List.eq_nil_of_length_eq_zero h3, h2.2.2⟩
  · right
    simp only [Value.slice.injEq, true_and] at h2
    obtain ⟨rfl, rfl⟩ := h2
    exact ⟨g, cur, rfl, h4, h3, h5, h6, h7, h8⟩
theorem Rw.ge (h : Rw e sz W base A cap rs) (hA : A ≠ none) : base ≤ blk A ∧ blk A < W.heap.size := by
  rcases h.cases with ⟨h1, -⟩ | ⟨bg, cur, rfl, h1, h2, -⟩
  · exact absurd h1 hA
  · exact ⟨h2, heap_lt' h1⟩
theorem Rw.keep (h : Rw e sz W base A cap rs) (hk : ∀ b, b < W.heap.size → (A ≠ none → b = blk A) → A ≠ none → W'.heap[b]? = W.heap[b]?) : Rw e sz W' base A cap rs := by
  rcases h.cases with ⟨rfl, rfl, rfl⟩ | ⟨bg, cur, rfl, h1, h2, h3, h4, h5, h6⟩
  · exact ⟨⟨by simp, .inl ⟨rfl, rfl⟩⟩, h.l⟩
  · exact ⟨⟨h.ow.1, .inr ⟨bg, cap, cur, rfl, h2, (hk bg (heap_lt' h1) (fun _ => rfl) (by simp)).trans h1, h3, h4, h5, h6⟩⟩, h.l⟩
theorem Rw.below (h : Rw e sz W base A cap rs) (hB : Below W.heap.size W W') : Rw e sz W' base A cap rs := h.keep fun b hb _ _ => hB.block b hb
theorem Rw.alloc (h : Rw e sz W base A cap rs) (o : Obj) : Rw e sz (W.alloc o) base A cap rs := h.keep fun b hb _ _ => heap_alloc_old (h := hb) ..
theorem Rw.grown (h : Rw e sz W base A cap rs) {row : Option Nat} (hg : W.grownBy W' row) (hne : A ≠ none → some (blk A) ≠ row) : Rw e sz W' base A cap rs := h.keep fun b hb h1 h2 => hg.block b hb (by rw [h1 h2]; exact hne h2)
theorem Rw.row (h : Rw e sz W base A cap rs) {j : Nat} {r : List Value} (hj : rs[j]? = some r) : W.rangeAt (blk A) (sz * j) r := fun q v hv => by
  have hr : r.length = sz := h.l r (List.mem_of_getElem? hj)
  have hq : q < sz := by have := (List.getElem?_eq_some_iff.1 hv).1; omega
  have hjl : j < rs.length := (List.getElem?_eq_some_iff.1 hj).1
  rcases h.cases with ⟨rfl, rfl, rfl⟩ | ⟨bg, cur, rfl, h1, h2, h3, h4, h5, h6⟩
  · simp at hj
  show W.cell? ⟨bg, sz * j + q, none⟩ = some v
  rw [cell_of_row W bg _ cur e (0, 0) h1]
  have h7 := flatR sz rs h.l j q r hj hq
  have h8 : sz * j + q < rs.length * sz := by
    have : sz * (j + 1) ≤ rs.length * sz := by rw [Nat.mul_comm]; exact Nat.mul_le_mul_right _ hjl
    rw [Nat.mul_add] at this; omega
  rw [← h6, List.getElem?_take, if_pos h8, hv] at h7
  simpa using h7
theorem Rw.ptr (h : Rw e sz W base A cap rs) (hn : 0 < rs.length) : A = some ⟨blk A, 0, none⟩ := by
  rcases h.cases with ⟨rfl, rfl, rfl⟩ | ⟨bg, cur, rfl, -⟩
  · simp at hn
  · rfl
theorem Rw.nil (e sz : Nat) (W : World) (base : Nat) : Rw e sz W base none 0 [] := ⟨⟨by simp, .inl ⟨rfl, rfl⟩⟩, by simp⟩
/-- the address of a row -/
theorem ixR {t : TypeId} {z : Value} {bytes : Nat} (E : ElR P t e z sz bytes) (g n c : Nat) {j : Nat} (hj : j < n) (kd : IntKind) (W : World) : (Instr.indexAt t (.slice (some ⟨g, 0, none⟩) n c) (.int kd (j : Int))).run P W = .ok (.pointer (some ⟨g, sz * j, none⟩)) W := by
  have h1 : (0 : Int) ≤ (j : Int) ∧ (j : Int) < (n : Int) := by omega
  simp only [Instr.indexAt, Sem.run_bind, run_underlying E.u, Result.andThen_ok, asIntOf, Sem.run_pure, if_pos h1, E.s, Int.toNat_natCast]
  rw [add_lit, Nat.zero_add, Nat.mul_comm]
/-- append of one row -/
theorem wp_appR {o : Oper} {a : Act} {K : Act → World → Prop} {Q : Exit → Act → World → Prop} {t : TypeId} {z : Value} {bytes : Nat} (E : ElR P t e z sz bytes) (s x : Operand) (m : List Value) (hm : m.length = sz) (h1 : ∀ u ∈ m, u.oneCell' = true)
    (ho : o.op = .call { callee := .builtin .append, args := #[s, x], argTypes := #[t, t] }) (hs : a.eval s = .slice A rs.length cap) {N : Nat} (hN : N = W.heap.size) (hx : a.eval x = .slice (some ⟨N, 0, none⟩) 1 1)
    (hO : Rw e sz W base A cap rs) (hn : (rs.length + 1) * bytes ≤ 140737488355328) (hn2 : rs.length + 1 ≤ maxLen) (hbase : base ≤ W.heap.size)
    (h : ∀ A' cap' w', Rw e sz w' base A' cap' (rs ++ [m]) → W.grownBy w' (Value.slice A rs.length cap).ownBlock → A' ≠ none → K (a.put o.dst (.slice A' (rs.length + 1) cap')) w') : o.wp P a (W.alloc (.cells m.toArray e)) K Q := by
  subst hN
  obtain ⟨i, hi, hz0, hz1, hz2⟩ := info_parts E.i
  obtain ⟨v', w', hr, h2, h3, h4⟩ := run_append_own (P := P) (W.alloc (.cells m.toArray e)) base t o.type e i _ sz bytes E.u hi hz0 hz1 hz2 E.c E.p _ rs.length _ (hO.alloc _).ow ⟨W.heap.size, 0, none⟩ 1 1 m (by simp [hm])
    (fun j u hj => by
      rw [add_lit, cell_of_row _ W.heap.size _ _ _ (0, 0) (heap_alloc_new _ _)]
      simpa using hj) h1 hn2 hn (by simp; omega)
  rcases h2.2 with ⟨h5, h6⟩ | ⟨g, cap', cur, h5, _⟩
  · omega
  · rw [h5] at hr h2
    have h6 : Rw e sz w' base (some ⟨g, 0, none⟩) cap' (rs ++ [m]) := ⟨by simpa [List.flatten_append] using h2, fun m' hm' => by
      rw [List.mem_append] at hm'
      rcases hm' with hm' | hm'
      · exact hO.l m' hm'
      · simp at hm'; subst hm'; exact hm⟩
    unfold Oper.wp
    simp only [execOp, ho, resolve, invoke, builtin, Sem.run_bind, Sem.run_pure, Result.andThen_ok, List.map_toArray, List.map_cons, List.map_nil, hs, hx, hr]
    exact h _ cap' w' h6 (grownBy_of_alloc h3) (by simp)
/-- make -/
theorem wp_mkR {o : Oper} {ts : Array Value} {ds : List Deferred} {K : Act → World → Prop} {Q : Exit → Act → World → Prop} (d : Nat) (l r : Operand) (t : TypeId) {z z0 : Value} {bytes n : Nat}
    (ho : o.op = .makeSlice t l r) (hd : o.dst = some d) (E : ElR P t e z sz bytes) (hz : z.cells = (List.replicate sz z0).toArray) {kl kr : IntKind} (hs : (⟨ts, ds⟩ : Act).eval l = .int kl (n : Int)) (hx : (⟨ts, ds⟩ : Act).eval r = .int kr (n : Int))
    (hby : bytes * n ≤ 281474976710656) (hm : n ≤ maxLen)
    (h : ∀ w', W.heap.size = W.heap.size → Blk w' W.heap.size e (List.replicate (n * sz) z0) → w'.heap.size = W.heap.size + 1 → Below W.heap.size W w' → K ⟨ts.setIfInBounds d (.slice (some ⟨W.heap.size, 0, none⟩) n n), ds⟩ w') : o.wp P ⟨ts, ds⟩ W K Q := by
  obtain ⟨i, hi, hz0, hz1, hz2⟩ := info_parts E.i
  have hb' : ((bytes : Nat) : Int) * (n : Int) ≤ 281474976710656 := by
    have h' : ((bytes * n : Nat) : Int) ≤ 281474976710656 := by omega
    rwa [Int.natCast_mul] at h'
  have hr := run_make (P := P) W t e i z E.u hi hz0 kl kr n n (by omega) (Int.le_refl _) (by rw [hz2]; exact hb') (by unfold maxLen at hm; omega)
  simp only [Int.toNat_natCast] at hr
  have hmc : madeCells z.cells (n * i.size) = (List.replicate (n * sz) z0).toArray := by
    have hp := E.p
    rw [hz1, hz]
    apply Array.ext
    · simp [madeCells]
    · intro j h1 h2
      have hj : j < n * sz := by simpa [madeCells] using h1
      have hmod : j % sz < sz := Nat.mod_lt _ hp
      simp [madeCells, hmod]
  unfold Oper.wp
  simp only [execOp, ho, Sem.run_bind, Sem.run_pure, Result.andThen_ok, hs, hx, hr]
  refine (show K (Act.put ⟨ts, ds⟩ o.dst _) _ from ?_)
  rw [hd, hmc]
  exact h _ rfl (Blk.new W _ e rfl) (by simp) ((Below.refl _ _).alloc (Nat.le_refl _) _)
end
end Go.Proofs.Ytpdalbckmfadbaa

namespace Go.Proofs.Ytpdalbckmfadbaa
open Go.RowKit
set_option linter.unusedVariables false
theorem er77 : ElR Try.prog 104 143 (.agg #[.int .i64 0, .int .i64 0, .int .i64 0, .int .i64 0]) 4 32 := ⟨Try.underlying104, by kernel_rfl, fun W => by kernel_rfl, rfl, by decide⟩
theorem run_bs60 (m : List Int) (hm : m.length = 4) (W : World) : (Instr.buildSlice 104 1 #[(0, .agg (ints8 m).toArray)]).run Try.prog W = .ok (.slice (some ⟨W.heap.size, 0, none⟩) 1 1) (W.alloc (.cells (ints8 m).toArray 143)) := by
  obtain ⟨i, hi, hz0, hz1, hz2⟩ := info_parts er77.i
  match m, hm with
  | [a, b, c, d], _ =>
    refine run_buildSlice (P := Try.prog) W 104 143 1 _ _ i _ Try.underlying104 hi hz0 (by rw [hz1]; decide) (by rw [hz1]; decide) ?_
    rw [hz1]
    first
      | kernel_rfl
      | (simp [Instr.fill, Value.cells, ints8, List.zipIdx, List.range, List.range.loop, Array.range]; done)
theorem wp_bs60 {o : Oper} {a : Act} {W : World} {K : Act → World → Prop} {Q : Exit → Act → World → Prop} (x : Operand) (m : List Int) (hm : m.length = 4) (ho : o.op = .buildSlice 104 1 #[(0, x)]) (hx : a.eval x = .agg (ints8 m).toArray)
    (h : K (a.put o.dst (.slice (some ⟨W.heap.size, 0, none⟩) 1 1)) (W.alloc (.cells (ints8 m).toArray 143))) : o.wp Try.prog a W K Q := by
  unfold Oper.wp
  have hp : (#[(0, x)] : Array (Nat × Operand)).map (fun (i, x) => (i, a.eval x)) = #[(0, .agg (ints8 m).toArray)] := by simp [hx]
  simp only [execOp, ho, hp, run_bs60 m hm, Sem.run_bind, Sem.run_pure, Result.andThen_ok]
  exact h
def brR (j : Nat) : List (List Value) := (brT.take j).map brV
theorem brR_len (j : Nat) (hj : j ≤ 16) : (brR j).length = j := by
  have : brT.length = 16 := rfl
  simp [brR]; omega
theorem brR_succ (j : Nat) (hj : j < brT.length) : brR (j + 1) = brR j ++ [brV brT[j]] := by
  unfold brR; rw [List.take_succ_eq_append_getElem hj, List.map_append]; rfl
def BrI (w : World) (p : Nat) (o : Value) (wr : World) : Prop := ∃ A cap, o = .slice A p cap ∧ Rw 143 4 wr w.heap.size A cap (brR p) ∧ Below w.heap.size w wr
end Go.Proofs.Ytpdalbckmfadbaa

namespace Go.Proofs.Ytpdalbckmfadbaa
open Go.RowKit
set_option linter.unusedVariables false
/-- a table of N rows of eight -/
structure Mt (W : World) (b N : Nat) (g : Nat → List Int) : Prop where
  blk : Blk W b 109 ((List.range N).map fun q => ints8 (g q)).flatten
  l8 : ∀ q, q < N → (g q).length = 8
theorem flat_len (sz : Nat) : ∀ (rs : List (List Value)), (∀ r ∈ rs, r.length = sz) → rs.flatten.length = rs.length * sz
  | [], _ => by simp
  | x :: xs, h => by
    rw [List.flatten_cons, List.length_append, h x (by simp), flat_len sz xs (fun r hr => h r (by simp [hr])), List.length_cons, Nat.add_mul, Nat.one_mul, Nat.add_comm]
section
variable {W W' : World} {b N : Nat} {g g' : Nat → List Int}
theorem mt_rows (h : ∀ q, q < N → (g q).length = 8) : ∀ r ∈ (List.range N).map (fun q => ints8 (g q)), r.length = 8 := by
  intro r hr
  obtain ⟨q, hq, rfl⟩ := List.mem_map.1 hr
  simp [ints8, h q (by simpa using hq)]
theorem mt_get (h : ∀ q, q < N → (g q).length = 8) {i k : Nat} (hi : i < N) (hk : k < 8) : ((List.range N).map fun q => ints8 (g q)).flatten[8 * i + k]? = some (.int .i64 (gi (g i) k)) := by
  rw [flatR 8 _ (mt_rows h) i k (ints8 (g i)) (by simp [hi]) hk]
  have : k < (g i).length := by rw [h i hi]; exact hk
  simp [ints8, gi, List.getD, this]
theorem Mt.cell (h : Mt W b N g) {i k : Nat} (hi : i < N) (hk : k < 8) : W.cell? ⟨b, 8 * i + k, none⟩ = some (.int .i64 (gi (g i) k)) := h.blk.cell (mt_get h.l8 hi hk)
theorem Mt.congr (h : Mt W b N g) (he : ∀ q, q < N → g q = g' q) : Mt W b N g' := by
  have e : ((List.range N).map fun q => ints8 (g q)) = ((List.range N).map fun q => ints8 (g' q)) := List.map_congr_left fun q hq => by rw [he q (by simpa using hq)]
  exact ⟨by rw [← e]; exact h.blk, fun q hq => by rw [← he q hq]; exact h.l8 q hq⟩
def updM (g : Nat → List Int) (i k : Nat) (v : Int) : Nat → List Int := fun q => if q = i then (g i).set k v else g q
theorem Mt.set (h : Mt W b N g) {i k : Nat} (hi : i < N) (hk : k < 8) (v : Int) : Mt (W.setCell ⟨b, 8 * i + k, none⟩ (.int .i64 v)) b N (updM g i k v) := by
  have l8' : ∀ q, q < N → (updM g i k v q).length = 8 := fun q hq => by
    unfold updM
    split
    · rw [List.length_set]; exact h.l8 i hi
    · exact h.l8 q hq
  refine ⟨?_, l8'⟩
  have h1 := h.blk.set (8 * i + k) (.int .i64 v)
  have e : ((List.range N).map fun q => ints8 (g q)).flatten.set (8 * i + k) (.int .i64 v) = ((List.range N).map fun q => ints8 (updM g i k v q)).flatten := by
    apply List.ext_getElem?
    intro p
    by_cases hp : p < N * 8
    · obtain ⟨a, c, hc, rfl⟩ : ∃ a c, c < 8 ∧ p = 8 * a + c := ⟨p / 8, p % 8, Nat.mod_lt _ (by omega), by omega⟩
      have ha : a < N := by omega
      rw [mt_get l8' ha hc, List.getElem?_set, mt_get h.l8 ha hc]
      have hlen : 8 * i + k < ((List.range N).map fun q => ints8 (g q)).flatten.length := by rw [flat_len 8 _ (mt_rows h.l8)]; simp; omega
      by_cases hia : i = a
      · subst hia
        by_cases hkc : k = c
        · subst hkc
          rw [if_pos rfl, if_pos hlen]
          simp [updM, gi_set' _ _ _ _ (by rw [h.l8 i hi]; exact hk)]
        · rw [if_neg (by omega)]
          simp [updM, gi_set' _ _ _ _ (by rw [h.l8 i hi]; exact hc), hkc]
      · rw [if_neg (by omega)]
        simp [updM, Ne.symm hia]
    · rw [List.getElem?_eq_none (by rw [List.length_set, flat_len 8 _ (mt_rows h.l8)]; simp; omega), List.getElem?_eq_none (by rw [flat_len 8 _ (mt_rows l8')]; simp; omega)]
  rw [e] at h1
  exact h1
theorem Mt.below (h : Mt W b N g) (hB : Below W.heap.size W W') : Mt W' b N g := ⟨h.blk.below hB, h.l8⟩
theorem Mt.grown (h : Mt W b N g) {r : Nat} (hg : W.grownBy W' (some r)) (hne : b ≠ r) : Mt W' b N g := ⟨h.blk.grown hg hne, h.l8⟩
theorem Mt.new (h : Blk W b 109 (List.replicate (N * 8) (.int .i64 0))) : Mt W b N (fun _ => List.replicate 8 0) := by
  refine ⟨?_, fun _ _ => List.length_replicate ..⟩
  have e : ((List.range N).map fun _ => ints8 (List.replicate 8 0)).flatten = List.replicate (N * 8) (.int .i64 0) := by
    apply List.ext_getElem?
    intro p
    have hr : ∀ q, q < N → ((fun _ => List.replicate 8 0 : Nat → List Int) q).length = 8 := fun _ _ => by simp
    by_cases hp : p < N * 8
    · obtain ⟨a, c, hc, rfl⟩ : ∃ a c, c < 8 ∧ p = 8 * a + c := ⟨p / 8, p % 8, Nat.mod_lt _ (by omega), by omega⟩
      have := mt_get (g := fun _ => List.replicate 8 0) (N := N) hr (i := a) (k := c) (by omega) hc
      rw [this, List.getElem?_replicate, if_pos hp, gi_eq _ _ (by simpa using hc), List.getElem_replicate]
    · rw [List.getElem?_eq_none (by rw [flat_len 8 _ (mt_rows (g := fun _ => List.replicate 8 0) hr)]; simp; omega), List.getElem?_eq_none (by simp; omega)]
  rw [e]; exact h
end
/-- where the two tables and the branches lie -/
structure Sw (w : World) (bf bg N bA cap : Nat) (wr : World) (F G : Nat → List Int) : Prop where
  f : Mt wr bf N F
  g : Mt wr bg N G
  r : Rw 143 4 wr w.heap.size (some ⟨bA, 0, none⟩) cap (brR 16)
  bl : Below w.heap.size w wr
structure SwS (w : World) (bf bg bA : Nat) : Prop where
  fg : bf ≠ bg
  fA : bf ≠ bA
  gA : bg ≠ bA
  hf : w.heap.size ≤ bf
  hg : w.heap.size ≤ bg
section
variable {w wr w' : World} {bf bg N bA cap : Nat} {F G F' G' : Nat → List Int}
theorem Sw.call (h : Sw w bf bg N bA cap wr F G) (hB : Below wr.heap.size wr w') : Sw w bf bg N bA cap w' F G := ⟨h.f.below hB, h.g.below hB, h.r.below hB, h.bl.trans (hB.mono h.bl.size)⟩
theorem Sw.setF (h : Sw w bf bg N bA cap wr F G) (hs : SwS w bf bg bA) {i k : Nat} (hi : i < N) (hk : k < 8) (v : Int) : Sw w bf bg N bA cap (wr.setCell ⟨bf, 8 * i + k, none⟩ (.int .i64 v)) (updM F i k v) G := by
  have hg := grownBy_set wr bf (8 * i + k) (.int .i64 v)
  exact ⟨h.f.set hi hk v, h.g.grown hg (Ne.symm hs.fg), h.r.grown hg (fun _ => by simp [blk]; exact Ne.symm hs.fA), h.bl.setCell hs.hf _⟩
theorem Sw.setG (h : Sw w bf bg N bA cap wr F G) (hs : SwS w bf bg bA) {i k : Nat} (hi : i < N) (hk : k < 8) (v : Int) : Sw w bf bg N bA cap (wr.setCell ⟨bg, 8 * i + k, none⟩ (.int .i64 v)) F (updM G i k v) := by
  have hg := grownBy_set wr bg (8 * i + k) (.int .i64 v)
  exact ⟨h.f.grown hg hs.fg, h.g.set hi hk v, h.r.grown hg (fun _ => by simp [blk]; exact Ne.symm hs.gA), h.bl.setCell hs.hg _⟩
theorem Sw.congr (h : Sw w bf bg N bA cap wr F G) (hF : ∀ q, q < N → F q = F' q) (hG : ∀ q, q < N → G q = G' q) : Sw w bf bg N bA cap wr F' G' := ⟨h.f.congr hF, h.g.congr hG, h.r, h.bl⟩
end
/-- the tables, step by step -/
def initF (i k q : Nat) : List Int := if q < i then noneL else if q = i then List.replicate k UU ++ List.replicate (8 - k) 0 else List.replicate 8 0
theorem initF_zero : initF 0 0 = fun _ => List.replicate 8 0 := by
  funext q; unfold initF
  by_cases h : q = 0
  · subst h; rfl
  · rw [if_neg (by omega), if_neg h]
theorem initF_next (i : Nat) : initF i 8 = initF (i + 1) 0 := by
  funext q; unfold initF
  by_cases h : q < i
  · rw [if_pos h, if_pos (by omega)]
  · rw [if_neg h]
    by_cases e : q = i
    · rw [if_pos e, if_pos (by omega)]; rfl
    · rw [if_neg e, if_neg (by omega)]
      by_cases e2 : q = i + 1
      · rw [if_pos e2]; rfl
      · rw [if_neg e2]
theorem initF_set (i k : Nat) (hk : k < 8) : updM (initF i k) i k UU = initF i (k + 1) := by
  funext q; unfold updM
  by_cases e : q = i
  · subst e
    rw [if_pos rfl]
    unfold initF
    rw [if_neg (by omega), if_pos rfl, if_neg (by omega), if_pos rfl]
    rcases (by omega : k = 0 ∨ k = 1 ∨ k = 2 ∨ k = 3 ∨ k = 4 ∨ k = 5 ∨ k = 6 ∨ k = 7) with rfl | rfl | rfl | rfl | rfl | rfl | rfl | rfl <;> rfl
  · rw [if_neg e]; unfold initF
    by_cases h : q < i
    · rw [if_pos h, if_pos h]
    · rw [if_neg h, if_neg e, if_neg h, if_neg e]
def fI (o : Ob) (i k q : Nat) : List Int := if q ≤ i then o.f q else if q = i + 1 then fN o i (o.f i) k else noneL
def bN' (o : Ob) (i : Nat) (m : List Int) (j : Nat) : List Int := (brT.take j).foldl (o.bB i m) noneL
def bI (o : Ob) (i k q : Nat) : List Int := if i < q then o.b q else if q = i then bN' o i (o.b (i + 1)) k else noneL
theorem fI_start (o : Ob) : ∀ q, updM (fun _ => noneL) 0 0 0 q = fI o 0 0 q := fun q => by
  unfold updM fI
  by_cases e : q = 0
  · subst e; rfl
  · rw [if_neg e, if_neg (by omega)]
    by_cases e2 : q = 0 + 1
    · rw [if_pos e2]; rfl
    · rw [if_neg e2]
theorem fI_next (o : Ob) (i : Nat) : fI o i 16 = fI o (i + 1) 0 := by
  funext q; unfold fI
  by_cases h : q ≤ i
  · rw [if_pos h, if_pos (by omega)]
  · rw [if_neg h]
    by_cases e : q = i + 1
    · subst e; rw [if_pos rfl, if_pos (Nat.le_refl _)]; rfl
    · rw [if_neg e, if_neg (by omega)]
      by_cases e2 : q = i + 1 + 1
      · rw [if_pos e2]; rfl
      · rw [if_neg e2]
theorem fI_set (o : Ob) (i k : Nat) (hk : k < 16) (h : o.allow i (brN k) = true ∧ UU < gi (o.f i) (brN k).fr) :
    updM (fI o i k) (i + 1) (brN k).tt (max (gi (fN o i (o.f i) k) (brN k).tt) (gi (o.f i) (brN k).fr + o.term i (brN k))) = fI o i (k + 1) := by
  funext q; unfold updM
  by_cases e : q = i + 1
  · subst e
    rw [if_pos rfl]
    unfold fI
    rw [if_neg (by omega), if_pos rfl, if_neg (by omega), if_pos rfl, fN_succ o i _ k hk]
    unfold Ob.fB
    rw [if_pos h]
  · rw [if_neg e]; unfold fI
    by_cases h1 : q ≤ i
    · rw [if_pos h1, if_pos h1]
    · rw [if_neg h1, if_neg e, if_neg h1, if_neg e]
theorem fI_same (o : Ob) (i k : Nat) (hk : k < 16) (h : ¬ (o.allow i (brN k) = true ∧ UU < gi (o.f i) (brN k).fr)) : fI o i (k + 1) = fI o i k := by
  funext q; unfold fI
  rw [fN_succ o i _ k hk]
  unfold Ob.fB
  rw [if_neg h]
theorem bN'_succ (o : Ob) (i : Nat) (m : List Int) (j : Nat) (hj : j < 16) : bN' o i m (j + 1) = o.bB i m (bN' o i m j) (brN j) := by
  unfold bN'; rw [br_take j hj, List.foldl_append]; rfl
theorem b_succ (o : Ob) (i : Nat) (hi : i < o.s.length) : o.b i = o.bwd i (o.b (i + 1)) := by
  unfold Ob.b
  rw [show o.s.length - i = (o.s.length - (i + 1)) + 1 from by omega]
  show o.bwd (o.s.length - 1 - (o.s.length - (i + 1))) _ = _
  rw [show o.s.length - 1 - (o.s.length - (i + 1)) = i from by omega]
theorem b_last (o : Ob) : o.b o.s.length = none0 := by unfold Ob.b; rw [Nat.sub_self]; rfl
theorem bI_start (o : Ob) (i : Nat) (hi : i + 1 = o.s.length) : ∀ q, q < o.s.length + 1 → updM (fun _ => noneL) o.s.length 0 0 q = bI o i 0 q := fun q hq => by
  unfold updM bI
  by_cases e : q = o.s.length
  · subst e; rw [if_pos rfl, if_pos (by omega), b_last]; rfl
  · rw [if_neg e, if_neg (by omega)]
    by_cases e2 : q = i
    · rw [if_pos e2]; rfl
    · rw [if_neg e2]
theorem bI_next (o : Ob) (i : Nat) (hi : i + 1 < o.s.length) : bI o (i + 1) 16 = bI o i 0 := by
  funext q; unfold bI
  by_cases h : i + 1 < q
  · rw [if_pos h, if_pos (by omega)]
  · rw [if_neg h]
    by_cases e : q = i + 1
    · subst e; rw [if_pos rfl, if_pos (by omega), b_succ o (i + 1) hi]; rfl
    · rw [if_neg e, if_neg (by omega)]
      by_cases e2 : q = i
      · rw [if_pos e2]; rfl
      · rw [if_neg e2]
theorem bI_end (o : Ob) (h0 : 0 < o.s.length) (q : Nat) : bI o 0 16 q = o.b q := by
  unfold bI
  by_cases h : 0 < q
  · rw [if_pos h]
  · rw [if_neg h, if_pos (by omega), show q = 0 from by omega, b_succ o 0 h0]; rfl
theorem bI_set (o : Ob) (i k : Nat) (hk : k < 16) (h : o.allow i (brN k) = true ∧ UU < gi (o.b (i + 1)) (brN k).tt) :
    updM (bI o i k) i (brN k).fr (max (gi (bN' o i (o.b (i + 1)) k) (brN k).fr) (gi (o.b (i + 1)) (brN k).tt + o.term i (brN k))) = bI o i (k + 1) := by
  funext q; unfold updM
  by_cases e : q = i
  · subst e
    rw [if_pos rfl]
    unfold bI
    rw [if_neg (by omega), if_pos rfl, if_neg (by omega), if_pos rfl, bN'_succ o q _ k hk]
    unfold Ob.bB
    rw [if_pos h]
  · rw [if_neg e]; unfold bI
    by_cases h1 : i < q
    · rw [if_pos h1, if_pos h1]
    · rw [if_neg h1, if_neg e, if_neg h1, if_neg e]
theorem bI_same (o : Ob) (i k : Nat) (hk : k < 16) (h : ¬ (o.allow i (brN k) = true ∧ UU < gi (o.b (i + 1)) (brN k).tt)) : bI o i (k + 1) = bI o i k := by
  funext q; unfold bI
  rw [bN'_succ o i _ k hk]
  unfold Ob.bB
  rw [if_neg h]
end Go.Proofs.Ytpdalbckmfadbaa

namespace Go.Proofs.Ytpdalbckmfadbaa
open Go.RowKit
set_option linter.unusedVariables false
def SweepsPost (o : Ob) (w : World) (e : Ending) (w' : World) : Prop := ∃ bf bg, e = .returned (.tuple #[.slice (some ⟨bf, 0, none⟩) (o.s.length + 1) (o.s.length + 1), .slice (some ⟨bg, 0, none⟩) (o.s.length + 1) (o.s.length + 1)]) ∧ Mt w' bf (o.s.length + 1) o.f ∧ Mt w' bg (o.s.length + 1) o.b ∧ w.heap.size ≤ bf ∧ w.heap.size ≤ bg ∧ Below w.heap.size w w'
def bH (o : Ob) (j q : Nat) : List Int := if j = 0 then o.b q else bI o (j - 1) 0 q
theorem brR_get (k : Nat) (hk : k < 16) : (brR 16)[k]? = some (brV (brN k)) := by
  rcases (by omega : k = 0 ∨ k = 1 ∨ k = 2 ∨ k = 3 ∨ k = 4 ∨ k = 5 ∨ k = 6 ∨ k = 7 ∨ k = 8 ∨ k = 9 ∨ k = 10 ∨ k = 11 ∨ k = 12 ∨ k = 13 ∨ k = 14 ∨ k = 15) with rfl | rfl | rfl | rfl | rfl | rfl | rfl | rfl | rfl | rfl | rfl | rfl | rfl | rfl | rfl | rfl <;> rfl
end Go.Proofs.Ytpdalbckmfadbaa

namespace Go.Proofs.Ytpdalbckmfadbaa
open Go.RowKit
set_option linter.unusedVariables false
theorem softB_app (xs ys : List Int) : SoftB (xs ++ ys) = (SoftB xs && SoftB ys) := by simp [SoftB, List.all_append]
def WrPost (o : Ob) (w : World) (e : Ending) (w' : World) : Prop := e = .returned (.int .i64 (if o.soft = true then 0 else 6)) ∧ Below w.heap.size w w'
end Go.Proofs.Ytpdalbckmfadbaa

namespace Go.Proofs.Ytpdalbckmfadbaa
open Go.RowKit
set_option linter.unusedVariables false
def Apart (A B : Option Addr) : Prop := A ≠ none → B ≠ none → blk A ≠ blk B
theorem Apart.symm {A B : Option Addr} (h : Apart A B) : Apart B A := fun hb ha he => h ha hb he.symm
/-- one row: its kind, its element, where it lies, its length, its capacity, what it reads as -/
structure RowD where
  k : IntKind
  e : TypeId
  A : Option Addr
  n : Nat
  c : Nat
  xs : List Int
def RowD.val (r : RowD) : Value := .slice r.A r.n r.c
def RowD.own (r : RowD) (W : World) (base : Nat) : Prop := Own r.k r.e W base r.A r.n r.c r.xs
structure TT (base : Nat) (W : World) (r1 r2 r3 : RowD) : Prop where
  o1 : r1.own W base
  o2 : r2.own W base
  o3 : r3.own W base
  a12 : Apart r1.A r2.A
  a13 : Apart r1.A r3.A
  a23 : Apart r2.A r3.A
section
variable {base : Nat} {W W' : World} {r1 r2 r3 : RowD}
theorem TT.rot (h : TT base W r1 r2 r3) : TT base W r2 r3 r1 := ⟨h.o2, h.o3, h.o1, h.a23, h.a12.symm, h.a13.symm⟩
theorem TT.below (h : TT base W r1 r2 r3) (hB : Below W.heap.size W W') : TT base W' r1 r2 r3 := ⟨Ownv.below h.o1 hB, Ownv.below h.o2 hB, Ownv.below h.o3 hB, h.a12, h.a13, h.a23⟩
theorem TT.alloc (h : TT base W r1 r2 r3) (o : Obj) : TT base (W.alloc o) r1 r2 r3 := ⟨Ownv.alloc h.o1 o, Ownv.alloc h.o2 o, Ownv.alloc h.o3 o, h.a12, h.a13, h.a23⟩
/-- a store elsewhere -/
theorem TT.grown (h : TT base W r1 r2 r3) {g : Nat} (hg : W.grownBy W' (some g)) (hlt : g < base) : TT base W' r1 r2 r3 := by
  have q : ∀ (r : RowD), r.own W base → r.A ≠ none → some (blk r.A) ≠ some g := fun r hr hA => by
    have : base ≤ blk r.A := by
      obtain ⟨-, h2⟩ := Ownv.cases hr
      rcases h2 with ⟨h2, -⟩ | ⟨b, cur, h2, h3, -⟩
      · exact absurd h2 hA
      · rw [h2]; exact h3
    simp; omega
  exact ⟨Ownv.grown h.o1 hg (q r1 h.o1), Ownv.grown h.o2 hg (q r2 h.o2), Ownv.grown h.o3 hg (q r3 h.o3), h.a12, h.a13, h.a23⟩
theorem own_lt3 {r : RowD} (h : r.own W base) (hA : r.A ≠ none) : blk r.A < W.heap.size := by
  obtain ⟨-, h2⟩ := Ownv.cases h
  rcases h2 with ⟨h2, -⟩ | ⟨b, cur, h2, h3, h4, -⟩
  · exact absurd h2 hA
  · rw [h2]; exact heap_lt' h4
theorem own_beside {r q : RowD} (hq : q.own W base) (hg : W.grownBy W' r.val.ownBlock) (hap : Apart r.A q.A) : q.own W' base := by
  refine Ownv.grown hq hg (fun hb he => ?_)
  unfold RowD.val at he
  cases hA : r.A with
  | none => rw [hA] at he; simp [Value.ownBlock] at he
  | some ad =>
    rw [hA] at he
    simp [Value.ownBlock] at he
    exact hap (by simp [hA]) hb (by rw [he, hA]; rfl)
theorem apart_next {r q : RowD} {g : Nat} (hq : q.own W base) (hap : Apart r.A q.A) (h : r.A ≠ none ∧ g = blk r.A ∨ g = W.heap.size) : Apart (some ⟨g, 0, none⟩) q.A := by
  intro _ hb he
  have he' : g = blk q.A := he
  rcases h with ⟨hA, h⟩ | h
  · exact hap hA hb (by rw [← h]; exact he')
  · have := own_lt3 hq hb; omega
/-- the first of three rows grows by one -/
theorem wp_appT {P : Program} {gx : Nat} {v : Int} {o : Oper} {a : Act} {K : Act → World → Prop} {Q : Exit → Act → World → Prop} (s x : Operand) (t : TypeId)
    (ho : o.op = .call { callee := .builtin .append, args := #[s, x], argTypes := #[t, t] }) {z : Value} {bytes : Nat} (hE : El P t r1.e z bytes) (hs : a.eval s = r1.val) (hx : a.eval x = .slice (some ⟨gx, 0, none⟩) 1 1)
    (T : TT base W r1 r2 r3) (hX : W.heap[gx]? = some (.cells #[.int r1.k v] r1.e (0, 0))) (hn : (r1.n + 1) * bytes ≤ 140737488355328) (hm : r1.n + 1 ≤ maxLen) (hb : base ≤ W.heap.size)
    (h : ∀ g c' w', TT base w' { r1 with A := some ⟨g, 0, none⟩, n := r1.n + 1, c := c', xs := r1.xs ++ [v] } r2 r3 → W.grownBy w' r1.val.ownBlock → K (a.put o.dst (.slice (some ⟨g, 0, none⟩) (r1.n + 1) c')) w') : o.wp P a W K Q := by
  obtain ⟨i, hi, hz0, hz1, hz2⟩ := info_parts hE.i
  refine wp_append_lies W s x t ho base r1.e i z 1 bytes hE.u hi hz0 hz1 hz2 (by rw [hE.z1]; rfl) (by decide) _ r1.n _ hs (show W.ownsRow base r1.e 1 r1.val r1.n (r1.xs.map (Value.int r1.k)) from T.o1.ow) ⟨gx, 0, none⟩ 1 1 ([v].map (Value.int r1.k)) hx (by simp) ?_ (oneCell_ints r1.k [v]) (by decide) hm hn hb _ rfl ?_
  · have hX' : W.heap[gx]? = some (.cells ([v].map (Value.int r1.k)).toArray r1.e (0, 0)) := by simpa using hX
    have := World.news_of_block hX'
    simpa using this
  · intro g cap w' h2 h3 h4 h5
    have hl : r1.A ≠ none ∧ g = blk r1.A ∨ g = W.heap.size := by
      rcases h4 with h4 | h4
      · left
        unfold RowD.val at h4
        cases hA : r1.A with
        | none => rw [hA] at h4; simp [Value.ownBlock] at h4
        | some ad => rw [hA] at h4; simp [Value.ownBlock] at h4; exact ⟨by simp, by rw [← h4]; rfl⟩
      · exact .inr h4
    refine h g cap w' ⟨?_, own_beside T.o2 h3 T.a12, own_beside T.o3 h3 T.a13, apart_next T.o2 T.a12 hl, apart_next T.o3 T.a13 hl, T.a23⟩ h3
    exact Own.of_eq ⟨h2⟩ rfl (by rw [List.map_append])
theorem own_ge {r : RowD} (h : r.own W base) : ∀ g, r.val.ownBlock = some g → base ≤ g := fun g hg => Ownv.ob' h hg
theorem own_blk {r : RowD} : ∀ g, r.val.ownBlock = some g → r.A ≠ none ∧ blk r.A = g := fun g hg => by
  unfold RowD.val at hg
  cases hA : r.A with
  | none => rw [hA] at hg; simp [Value.ownBlock] at hg
  | some ad => rw [hA] at hg; simp [Value.ownBlock] at hg; exact ⟨by simp, by rw [← hg]; rfl⟩
end
section
variable {w wr w' : World} {bf bg N bA cap base : Nat} {F G : Nat → List Int}
theorem Sw.grownR (h : Sw w bf bg N bA cap wr F G) {row : Option Nat} (hg : wr.grownBy w' row) (hr : ∀ g, row = some g → base ≤ g) (h1 : bf < base) (h2 : bg < base) (h3 : bA < base) (h4 : w.heap.size ≤ base) : Sw w bf bg N bA cap w' F G := by
  have q : ∀ b, b < base → b < wr.heap.size → w'.heap[b]? = wr.heap[b]? := fun b hb hs => hg.block b hs (fun e => by have := hr b e.symm; omega)
  refine ⟨⟨(q bf h1 h.f.blk.lt).trans h.f.blk, h.f.l8⟩, ⟨(q bg h2 h.g.blk.lt).trans h.g.blk, h.g.l8⟩, h.r.grown hg (fun _ e => ?_), h.bl.grown hg h.bl.size (fun k hk => Nat.le_trans h4 (hr k hk))⟩
  have := hr bA e.symm
  omega
theorem Blk.grownR {b : Nat} {t : TypeId} {cs : List Value} (h : Blk wr b t cs) {row : Option Nat} (hg : wr.grownBy w' row) (hr : ∀ g, row = some g → base ≤ g) (hb : b < base) : Blk w' b t cs :=
  (hg.block b h.lt (fun e => by have := hr b e.symm; omega)).trans h
end
end Go.Proofs.Ytpdalbckmfadbaa

namespace Go.Proofs.Ytpdalbckmfadbaa
open Go.RowKit
set_option linter.unusedVariables false
theorem grow_any (n : Nat) (w : World) (hn : n ≤ 1000000) :
    Calls Try.prog 67 #[.slice none 0 0, .int .i64 n] w fun e w' => ∃ A' c', e = .returned (.slice A' 0 c') ∧ Ownv 5 w' w.heap.size A' 0 c' [] ∧ Below w.heap.size w w' := by
  by_cases h0 : n = 0
  · subst h0
    go_enter Try.func67, Try.ntmps67
    go_wp2
    go_ret
    exact ⟨none, 0, rfl, Ownv.nilv 5 w _, Below.refl _ _⟩
  · have h1 : (0 : Int) < (n : Int) := by omega
    go_enter Try.func67, Try.ntmps67
    go_wp2_with (at_builtin; go_loud (refine list_of rfl fun K hK => wp_appz _ _ 24 3 rfl el26 (kn := .i64) (by kernel_rfl) rfl n rfl rfl rfl (Ownv.nilv 5 w w.heap.size) (by omega) (by omega) (Nat.le_refl _) ?_); intro A' c' w' hO hg; have hsl := fun W => Rdv.slh hO.rd el26 .i64 (Nat.zero_le c') W; refine hK _ _ ?_; clear hK K)
    go_ret
    exact ⟨A', c', rfl, Ownv.upto hO (Nat.zero_le _), (Below.refl _ _).grown hg (Nat.le_refl _) (by simp [Value.ownBlock])⟩
theorem el100 : El Try.prog 91 24 (.slice none 0 0) 24 := ⟨by kernel_rfl, by kernel_rfl, fun _ => by kernel_rfl, rfl⟩
/-- A slice value and what it reads as. -/
structure Sv where
  A : Option Addr
  n : Nat
  c : Nat
  xs : List Int
def Sv.v (s : Sv) : Value := .slice s.A s.n s.c
def flat (L : List Sv) (j : Nat) : List Int := (L.take j).flatMap (·.xs)
def tot (L : List Sv) (j : Nat) : Nat := ((L.take j).map (·.n)).sum
theorem take_get {L : List Sv} {j : Nat} {s : Sv} (h : L[j]? = some s) : L.take (j + 1) = L.take j ++ [s] := by
  rw [List.take_add_one, h]; rfl
theorem flat_succ {L : List Sv} {j : Nat} {s : Sv} (h : L[j]? = some s) : flat L (j + 1) = flat L j ++ s.xs := by
  unfold flat; rw [take_get h, List.flatMap_append]; simp
theorem tot_succ {L : List Sv} {j : Nat} {s : Sv} (h : L[j]? = some s) : tot L (j + 1) = tot L j + s.n := by
  unfold tot; rw [take_get h, List.map_append, List.sum_append]; simp
theorem tot_le {L : List Sv} {j k : Nat} (h : j ≤ k) : tot L j ≤ tot L k := by
  induction k with
  | zero => obtain rfl : j = 0 := by omega
            exact Nat.le_refl _
  | succ k ih =>
    by_cases hj : j = k + 1
    · subst hj; exact Nat.le_refl _
    · refine Nat.le_trans (ih (by omega)) ?_
      unfold tot
      rw [List.take_add_one, List.map_append, List.sum_append]; omega
def Cc1 (L : List Sv) (n : Nat) (sz i : Value) : Prop := ∃ j : Nat, j ≤ n ∧ i = .int .i64 j ∧ sz = .int .i64 (tot L j : Int)
def Cc2 (w1 : World) (B : Nat) (L : List Sv) (n : Nat) (out i : Value) (wr : World) : Prop := ∃ (j : Nat) (A : Option Addr) (c : Nat), j ≤ n ∧ i = .int .i64 j ∧ out = .slice A (tot L j) c ∧ Own .u8 5 wr B A (tot L j) c (flat L j) ∧ Below w1.heap.size w1 wr
set_option maxHeartbeats 800000 in
theorem concat_any (A : Option Addr) (n c : Nat) (L : List Sv) (w : World) (h : Rdv w A n c (L.map Sv.v)) (hs : ∀ s ∈ L, Rd .u8 w s.A s.n s.c s.xs) (ht : tot L n ≤ 1000000) :
    Calls Try.prog 47 #[.slice A n c] w fun e w' => ∃ A' c', e = .returned (.slice A' (tot L n) c') ∧ Own .u8 5 w' w.heap.size A' (tot L n) c' (flat L n) ∧ Below w.heap.size w w' := by
  have hbd := h.bd.1
  have hl := h.len
  rw [List.length_map] at hl
  have HL := Lib.hid hl; clear hl
  have hget : ∀ j, j < n → ∃ s, L[j]? = some s ∧ w.cell? (adr A j) = some (.slice s.A s.n s.c) ∧ Rd .u8 w s.A s.n s.c s.xs := fun j hj => by
    have hj' : j < L.length := by rw [HL.out]; exact hj
    exact ⟨L[j], List.getElem?_eq_getElem hj', h.at_ j _ (by simp [hj', Sv.v]), hs _ (List.getElem_mem hj')⟩
  have HG := Lib.hid hget; clear hget hs
  go_enter Try.func47, Try.ntmps47
  go_wp2
  go_loop [3, 11] (fun sz i => Cc1 L n sz i) (fun _ i => n - (intOf i).toNat)
  case atStart => exact ⟨0, by omega, rfl, rfl⟩
  case round =>
    obtain ⟨j, hj, rfl, rfl⟩ := hrel
    by_cases hlt : j < n
    · obtain ⟨s, hs, hc, hR⟩ := HG.out j hlt
      have hix := fun W => Rdv.ix h el100 hlt .i64 W
      have hts := tot_succ hs
      have htl := tot_le (L := L) (show j + 1 ≤ n by omega)
      have HTS := Lib.hid hts
      have HS := Lib.hid hs
      have hb3 : tot L j + s.n ≤ 1000000 := by omega
      clear hts hs
      go_wp2
      go_round
      case rel => exact ⟨j + 1, by omega, by go_num, by rw [HTS.out]; go_num⟩
      case measure => simp [intOf]; omega
    · obtain rfl : j = n := by omega
      go_wp2_with (go_at_call 67; refine (grow_any _ _ (by omega)).mono ?_; rintro e w1 ⟨A1, c1, rfl, hO1, hB1⟩)
      go_loopw [6, 27] (fun out i wr => Cc2 w w.heap.size L j out i wr) (fun _ i _ => j - (intOf i).toNat)
      case atStart => exact ⟨0, A1, c1, by omega, rfl, rfl, Own.of_eq hO1 rfl rfl, hB1⟩
      case round =>
        obtain ⟨q, A2, c2, hq, rfl, rfl, hO2, hB2⟩ := hrel
        by_cases hlq : q < j
        · obtain ⟨s, hs, hc, hR⟩ := HG.out q hlq
          have hh2 := Rdv.below h hB2
          have hix := fun W => Rdv.ix hh2 el100 hlq .i64 W
          have hc2 := (hB2.cell (p := adr A q) (World.block_lt_of_cell? w _ hc)).trans hc
          have hR2 := Rdv.below hR hB2
          have hts := tot_succ hs
          have htl := tot_le (L := L) (show q + 1 ≤ j by omega)
          have HTS := Lib.hid hts
          have HS := Lib.hid hs
          have hb3 : tot L q + s.n ≤ 1000000 := by omega
          have hsz := hB2.size
          clear hts hs hc
          go_wp2_with (at_builtin; go_loud (refine list_of rfl fun K hK => wp_app _ _ 24 rfl el26 rfl rfl hO2 hR2 (oneCell_ints .u8 _) (by omega) (by unfold maxLen; omega) hsz ?_); intro A' c' w' hO' hg; refine hK _ _ ?_; clear hK K)
          go_roundw
          case rel => exact ⟨q + 1, A', c', by omega, by go_num, by rw [HTS.out], Own.of_eq hO' HTS.out.symm (by rw [flat_succ HS.out, List.map_append]), hB2.grown hg hsz (fun k hk => Ownv.ob' hO2 hk)⟩
          case measure => simp [intOf]; omega
        · obtain rfl : q = j := by omega
          go_wp2
          go_ret
          exact ⟨A2, c2, rfl, hO2, hB2⟩

end Go.Proofs.Ytpdalbckmfadbaa

namespace Go.Proofs.Ytpdalbckmfadbaa
open Go.RowKit
set_option linter.unusedVariables false
theorem Rdv.slhm {P : Program} {w : World} {A : Option Addr} {n c : Nat} {vs : List Value} (h : Rdv w A n c vs) {t e : TypeId} {z : Value} {bytes : Nat} (E : El P t e z bytes) (kh km : IntKind) {m : Nat} (hm : m ≤ c) (W : World) :
    (Instr.sliceAt t (.slice A n c) none (some (.int kh (m : Int))) (some (.int km (m : Int)))).run P W = .ok (.slice A m m) W := by
  have e1 : P.underlying t = some (.slice (P.elem t)) := by rw [E.u]; simp [Program.elem, E.u]
  have e2 : P.elem t = e := by simp [Program.elem, E.u]
  rw [run_sliceAt_slice W t _ _ _ _ e1, run_slice_hm W t A n c e1 kh km m m (by omega) (by omega) (by omega), e2, E.s]
  simp only [Result.andThen_ok, Int.toNat_natCast, sliced, Nat.zero_mul, Nat.sub_zero]
  congr 2
  split
  · rfl
  · cases A <;> simp [Addr.add]
theorem Rdv.capn {w : World} {A : Option Addr} {n c : Nat} {vs : List Value} (h : Rdv w A n c vs) : Rdv w A n n vs := by
  have hle := h.le
  exact ⟨h.len, Nat.le_refl _, Nat.le_trans hle h.cm, fun e => by have := h.nil e; omega, fun hn => h.spot (by omega), fun hn => h.lt (by omega), h.at_⟩
theorem info97 : (Try.prog.info? 83).map (·.size) = some 3 := by kernel_rfl
theorem Blk.rdv {W : World} {b : Nat} {t : TypeId} {cs : List Value} (h : Blk W b t cs) (hm : cs.length ≤ maxLen) : Rdv W (some ⟨b, 0, none⟩) cs.length cs.length cs :=
  ⟨rfl, Nat.le_refl _, hm, nofun, by rintro _ a ⟨⟩; rfl, by rintro _ a ⟨⟩; exact h.lt, fun j v hj => by rw [adr_some, Nat.zero_add]; exact h.cell hj⟩
def u3 (f : Nat → Bool) : List Int := [ib (f 0), ib (f 1), ib (f 2)]
end Go.Proofs.Ytpdalbckmfadbaa

namespace Go.Proofs.Ytpdalbckmfadbaa
open Go.RowKit
set_option linter.unusedVariables false
/-- the values with some indices -/
def pk (xs l : List Int) : List Int := l.map fun i => gi xs i.toNat
theorem pk_len (xs l : List Int) : (pk xs l).length = l.length := by simp [pk]
theorem gi_pk {xs l : List Int} {j : Nat} (h : j < l.length) : gi (pk xs l) j = gi xs (gi l j).toNat := by
  rw [gi_eq _ _ (by rw [pk_len]; exact h), gi_eq l j h]; simp [pk]
end Go.Proofs.Ytpdalbckmfadbaa

