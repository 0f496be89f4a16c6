/-
  Bundle of the texts Ca Cb Cc Cd Ce Cf Cg Cj Ck Ik Ie. Conditions: none.
-/
import Derived.Test.YtpdalbckmfadbaaGreatBucag
import Derived.Deep.AppendLies
import Derived.Test.YtpdalbckmfadbaaGreatBucaa
import Derived.Test.YtpdalbckmfadbaaGreatBucae
namespace Go.Proofs.YtpdalbckmfadbaaGreat
open Go.RowKit
set_option linter.unusedVariables false
end Go.Proofs.YtpdalbckmfadbaaGreat

namespace Go.Proofs.YtpdalbckmfadbaaGreat
open Go.RowKit
set_option linter.unusedVariables false
/-- a slice of rows, the call's own -/
structure Rw (e : TypeId) (sz : Nat) (W : World) (base : Nat) (A : Option Addr) (cap : Nat) (rs : List (List Value)) : Prop where
  ow : W.ownsRow base e sz (.slice A rs.length cap) rs.length rs.flatten
  l : ∀ r ∈ rs, r.length = sz
theorem flatR (sz : Nat) : ∀ (rs : List (List Value)) (h : ∀ r ∈ rs, r.length = sz) (j q : Nat) (r : List Value), rs[j]? = some r → q < sz → rs.flatten[sz * j + q]? = r[q]?
  | [], h, j, q, m, hm, hq => by simp at hm
  | x :: ms, h, 0, q, m, hm, hq => by
    simp at hm; subst hm
    have hx : x.length = sz := h x (by simp)
    rw [List.flatten_cons, List.getElem?_append_left (by omega), Nat.mul_zero, Nat.zero_add]
  | x :: ms, h, j + 1, q, m, hm, hq => by
    have hx : x.length = sz := h x (by simp)
    rw [List.flatten_cons, List.getElem?_append_right (by rw [hx, Nat.mul_add]; omega), hx, show sz * (j + 1) + q - sz = sz * j + q from by rw [Nat.mul_add]; omega]
    exact flatR sz ms (fun m' hm' => h m' (by simp [hm'])) j q m (by simpa using hm) hq
section
variable {P : Program} {W W' : World} {base cap e sz : Nat} {A : Option Addr} {rs : List (List Value)}
theorem Rw.cases (h : Rw e sz W base A cap rs) : (A = none ∧ rs = [] ∧ cap = 0) ∨ ∃ bg cur, A = some ⟨bg, 0, none⟩ ∧ W.heap[bg]? = some (.cells cur e (0, 0)) ∧ base ≤ bg ∧ rs.length ≤ cap ∧ cap ≤ maxLen ∧ cur.size = cap * sz ∧ cur.toList.take (rs.length * sz) = rs.flatten := by
  obtain ⟨h1, h2⟩ := h.ow
  rcases h2 with ⟨h2, h3⟩ | ⟨g, cap', cur, h2, h3, h4, h5, h6, h7, h8⟩
  · left
    simp only [Value.slice.injEq] at h2
    exact ⟨h2.1, List.eq_nil_of_length_eq_zero h3, h2.2.2⟩
  · right
    simp only [Value.slice.injEq, true_and] at h2
    obtain ⟨rfl, rfl⟩ := h2
    exact ⟨g, cur, rfl, h4, h3, h5, h6, h7, h8⟩
theorem Rw.ge (h : Rw e sz W base A cap rs) (hA : A ≠ none) : base ≤ blk A ∧ blk A < W.heap.size := by
  rcases h.cases with ⟨h1, -⟩ | ⟨bg, cur, rfl, h1, h2, -⟩
  · exact absurd h1 hA
  · exact ⟨h2, heap_lt' h1⟩
theorem Rw.keep (h : Rw e sz W base A cap rs) (hk : ∀ b, b < W.heap.size → (A ≠ none → b = blk A) → A ≠ none → W'.heap[b]? = W.heap[b]?) : Rw e sz W' base A cap rs := by
  rcases h.cases with ⟨rfl, rfl, rfl⟩ | ⟨bg, cur, rfl, h1, h2, h3, h4, h5, h6⟩
  · exact ⟨⟨by simp, .inl ⟨rfl, rfl⟩⟩, h.l⟩
  · exact ⟨⟨h.ow.1, .inr ⟨bg, cap, cur, rfl, h2, (hk bg (heap_lt' h1) (fun _ => rfl) (by simp)).trans h1, h3, h4, h5, h6⟩⟩, h.l⟩
theorem Rw.below (h : Rw e sz W base A cap rs) (hB : Below W.heap.size W W') : Rw e sz W' base A cap rs := h.keep fun b hb _ _ => hB.block b hb
theorem Rw.alloc (h : Rw e sz W base A cap rs) (o : Obj) : Rw e sz (W.alloc o) base A cap rs := h.keep fun b hb _ _ => heap_alloc_old (h := hb) ..
theorem Rw.grown (h : Rw e sz W base A cap rs) {row : Option Nat} (hg : W.grownBy W' row) (hne : A ≠ none → some (blk A) ≠ row) : Rw e sz W' base A cap rs := h.keep fun b hb h1 h2 => hg.block b hb (by rw [h1 h2]; exact hne h2)
theorem Rw.row (h : Rw e sz W base A cap rs) {j : Nat} {r : List Value} (hj : rs[j]? = some r) : W.rangeAt (blk A) (sz * j) r := fun q v hv => by
  have hr : r.length = sz := h.l r (List.mem_of_getElem? hj)
  have hq : q < sz := by have := (List.getElem?_eq_some_iff.1 hv).1; omega
  have hjl : j < rs.length := (List.getElem?_eq_some_iff.1 hj).1
  rcases h.cases with ⟨rfl, rfl, rfl⟩ | ⟨bg, cur, rfl, h1, h2, h3, h4, h5, h6⟩
  · simp at hj
  show W.cell? ⟨bg, sz * j + q, none⟩ = some v
  rw [cell_of_row W bg _ cur e (0, 0) h1]
  have h7 := flatR sz rs h.l j q r hj hq
  have h8 : sz * j + q < rs.length * sz := by
    have : sz * (j + 1) ≤ rs.length * sz := by rw [Nat.mul_comm]; exact Nat.mul_le_mul_right _ hjl
    rw [Nat.mul_add] at this; omega
  rw [← h6, List.getElem?_take, if_pos h8, hv] at h7
  simpa using h7
theorem Rw.ptr (h : Rw e sz W base A cap rs) (hn : 0 < rs.length) : A = some ⟨blk A, 0, none⟩ := by
  rcases h.cases with ⟨rfl, rfl, rfl⟩ | ⟨bg, cur, rfl, -⟩
  · simp at hn
  · rfl
theorem Rw.nil (e sz : Nat) (W : World) (base : Nat) : Rw e sz W base none 0 [] := ⟨⟨by simp, .inl ⟨rfl, rfl⟩⟩, by simp⟩
end
end Go.Proofs.YtpdalbckmfadbaaGreat

namespace Go.Proofs.YtpdalbckmfadbaaGreat
open Go.RowKit
set_option linter.unusedVariables false
def brR (j : Nat) : List (List Value) := (brT.take j).map brV
end Go.Proofs.YtpdalbckmfadbaaGreat

namespace Go.Proofs.YtpdalbckmfadbaaGreat
open Go.RowKit
set_option linter.unusedVariables false
/-- a table of N rows of eight -/
structure Mt (W : World) (b N : Nat) (g : Nat → List Int) : Prop where
  blk : Blk W b 162 ((List.range N).map fun q => ints8 (g q)).flatten
  l8 : ∀ q, q < N → (g q).length = 8
theorem flat_len (sz : Nat) : ∀ (rs : List (List Value)), (∀ r ∈ rs, r.length = sz) → rs.flatten.length = rs.length * sz
  | [], _ => by simp
  | x :: xs, h => by
    rw [List.flatten_cons, List.length_append, h x (by simp), flat_len sz xs (fun r hr => h r (by simp [hr])), List.length_cons, Nat.add_mul, Nat.one_mul, Nat.add_comm]
section
variable {W W' : World} {b N : Nat} {g g' : Nat → List Int}
theorem mt_rows (h : ∀ q, q < N → (g q).length = 8) : ∀ r ∈ (List.range N).map (fun q => ints8 (g q)), r.length = 8 := by
  intro r hr
  obtain ⟨q, hq, rfl⟩ := List.mem_map.1 hr
  simp [ints8, h q (by simpa using hq)]
theorem mt_get (h : ∀ q, q < N → (g q).length = 8) {i k : Nat} (hi : i < N) (hk : k < 8) : ((List.range N).map fun q => ints8 (g q)).flatten[8 * i + k]? = some (.int .i64 (gi (g i) k)) := by
  rw [flatR 8 _ (mt_rows h) i k (ints8 (g i)) (by simp [hi]) hk]
  have : k < (g i).length := by rw [h i hi]; exact hk
  simp [ints8, gi, List.getD, this]
theorem Mt.cell (h : Mt W b N g) {i k : Nat} (hi : i < N) (hk : k < 8) : W.cell? ⟨b, 8 * i + k, none⟩ = some (.int .i64 (gi (g i) k)) := h.blk.cell (mt_get h.l8 hi hk)
theorem Mt.congr (h : Mt W b N g) (he : ∀ q, q < N → g q = g' q) : Mt W b N g' := by
  have e : ((List.range N).map fun q => ints8 (g q)) = ((List.range N).map fun q => ints8 (g' q)) := List.map_congr_left fun q hq => by rw [he q (by simpa using hq)]
  exact ⟨by rw [← e]; exact h.blk, fun q hq => by rw [← he q hq]; exact h.l8 q hq⟩
def updM (g : Nat → List Int) (i k : Nat) (v : Int) : Nat → List Int := fun q => if q = i then (g i).set k v else g q
theorem Mt.set (h : Mt W b N g) {i k : Nat} (hi : i < N) (hk : k < 8) (v : Int) : Mt (W.setCell ⟨b, 8 * i + k, none⟩ (.int .i64 v)) b N (updM g i k v) := by
  have l8' : ∀ q, q < N → (updM g i k v q).length = 8 := fun q hq => by
    unfold updM
    split
    · rw [List.length_set]; exact h.l8 i hi
    · exact h.l8 q hq
  refine ⟨?_, l8'⟩
  have h1 := h.blk.set (8 * i + k) (.int .i64 v)
  have e : ((List.range N).map fun q => ints8 (g q)).flatten.set (8 * i + k) (.int .i64 v) = ((List.range N).map fun q => ints8 (updM g i k v q)).flatten := by
    apply List.ext_getElem?
    intro p
    by_cases hp : p < N * 8
    · obtain ⟨a, c, hc, rfl⟩ : ∃ a c, c < 8 ∧ p = 8 * a + c := ⟨p / 8, p % 8, Nat.mod_lt _ (by omega), by omega⟩
      have ha : a < N := by omega
      rw [mt_get l8' ha hc, List.getElem?_set, mt_get h.l8 ha hc]
      have hlen : 8 * i + k < ((List.range N).map fun q => ints8 (g q)).flatten.length := by rw [flat_len 8 _ (mt_rows h.l8)]; simp; omega
      by_cases hia : i = a
      · subst hia
        by_cases hkc : k = c
        · subst hkc
          rw [if_pos rfl, if_pos hlen]
          simp [updM, gi_set' _ _ _ _ (by rw [h.l8 i hi]; exact hk)]
        · rw [if_neg (by omega)]
          simp [updM, gi_set' _ _ _ _ (by rw [h.l8 i hi]; exact hc), hkc]
      · rw [if_neg (by omega)]
        simp [updM, Ne.symm hia]
    · rw [List.getElem?_eq_none (by rw [List.length_set, flat_len 8 _ (mt_rows h.l8)]; simp; omega), List.getElem?_eq_none (by rw [flat_len 8 _ (mt_rows l8')]; simp; omega)]
  rw [e] at h1
  exact h1
theorem Mt.below (h : Mt W b N g) (hB : Below W.heap.size W W') : Mt W' b N g := ⟨h.blk.below hB, h.l8⟩
theorem Mt.grown (h : Mt W b N g) {r : Nat} (hg : W.grownBy W' (some r)) (hne : b ≠ r) : Mt W' b N g := ⟨h.blk.grown hg hne, h.l8⟩
theorem Mt.new (h : Blk W b 162 (List.replicate (N * 8) (.int .i64 0))) : Mt W b N (fun _ => List.replicate 8 0) := by
  refine ⟨?_, fun _ _ => List.length_replicate ..⟩
  have e : ((List.range N).map fun _ => ints8 (List.replicate 8 0)).flatten = List.replicate (N * 8) (.int .i64 0) := by
    apply List.ext_getElem?
    intro p
    have hr : ∀ q, q < N → ((fun _ => List.replicate 8 0 : Nat → List Int) q).length = 8 := fun _ _ => by simp
    by_cases hp : p < N * 8
    · obtain ⟨a, c, hc, rfl⟩ : ∃ a c, c < 8 ∧ p = 8 * a + c := ⟨p / 8, p % 8, Nat.mod_lt _ (by omega), by omega⟩
      have := mt_get (g := fun _ => List.replicate 8 0) (N := N) hr (i := a) (k := c) (by omega) hc
      rw [this, List.getElem?_replicate, if_pos hp, gi_eq _ _ (by simpa using hc), List.getElem_replicate]
    · rw [List.getElem?_eq_none (by rw [flat_len 8 _ (mt_rows (g := fun _ => List.replicate 8 0) hr)]; simp; omega), List.getElem?_eq_none (by simp; omega)]
  rw [e]; exact h
end
/-- where the two tables and the branches lie -/
structure Sw (w : World) (bf bg N bA cap : Nat) (wr : World) (F G : Nat → List Int) : Prop where
  f : Mt wr bf N F
  g : Mt wr bg N G
  r : Rw 161 4 wr w.heap.size (some ⟨bA, 0, none⟩) cap (brR 16)
  bl : Below w.heap.size w wr
section
variable {w wr w' : World} {bf bg N bA cap : Nat} {F G F' G' : Nat → List Int}
theorem Sw.call (h : Sw w bf bg N bA cap wr F G) (hB : Below wr.heap.size wr w') : Sw w bf bg N bA cap w' F G := ⟨h.f.below hB, h.g.below hB, h.r.below hB, h.bl.trans (hB.mono h.bl.size)⟩
theorem Sw.congr (h : Sw w bf bg N bA cap wr F G) (hF : ∀ q, q < N → F q = F' q) (hG : ∀ q, q < N → G q = G' q) : Sw w bf bg N bA cap wr F' G' := ⟨h.f.congr hF, h.g.congr hG, h.r, h.bl⟩
end
end Go.Proofs.YtpdalbckmfadbaaGreat

namespace Go.Proofs.YtpdalbckmfadbaaGreat
open Go.RowKit
set_option linter.unusedVariables false
end Go.Proofs.YtpdalbckmfadbaaGreat

namespace Go.Proofs.YtpdalbckmfadbaaGreat
open Go.RowKit
set_option linter.unusedVariables false
end Go.Proofs.YtpdalbckmfadbaaGreat

namespace Go.Proofs.YtpdalbckmfadbaaGreat
open Go.RowKit
set_option linter.unusedVariables false
def Apart (A B : Option Addr) : Prop := A ≠ none → B ≠ none → blk A ≠ blk B
theorem Apart.symm {A B : Option Addr} (h : Apart A B) : Apart B A := fun hb ha he => h ha hb he.symm
/-- one row: its kind, its element, where it lies, its length, its capacity, what it reads as -/
structure RowD where
  k : IntKind
  e : TypeId
  A : Option Addr
  n : Nat
  c : Nat
  xs : List Int
def RowD.val (r : RowD) : Value := .slice r.A r.n r.c
def RowD.own (r : RowD) (W : World) (base : Nat) : Prop := Own r.k r.e W base r.A r.n r.c r.xs
structure TT (base : Nat) (W : World) (r1 r2 r3 : RowD) : Prop where
  o1 : r1.own W base
  o2 : r2.own W base
  o3 : r3.own W base
  a12 : Apart r1.A r2.A
  a13 : Apart r1.A r3.A
  a23 : Apart r2.A r3.A
section
variable {base : Nat} {W W' : World} {r1 r2 r3 : RowD}
theorem TT.below (h : TT base W r1 r2 r3) (hB : Below W.heap.size W W') : TT base W' r1 r2 r3 := ⟨Ownv.below h.o1 hB, Ownv.below h.o2 hB, Ownv.below h.o3 hB, h.a12, h.a13, h.a23⟩
theorem TT.alloc (h : TT base W r1 r2 r3) (o : Obj) : TT base (W.alloc o) r1 r2 r3 := ⟨Ownv.alloc h.o1 o, Ownv.alloc h.o2 o, Ownv.alloc h.o3 o, h.a12, h.a13, h.a23⟩
/-- a store elsewhere -/
theorem TT.grown (h : TT base W r1 r2 r3) {g : Nat} (hg : W.grownBy W' (some g)) (hlt : g < base) : TT base W' r1 r2 r3 := by
  have q : ∀ (r : RowD), r.own W base → r.A ≠ none → some (blk r.A) ≠ some g := fun r hr hA => by
    have : base ≤ blk r.A := by
      obtain ⟨-, h2⟩ := Ownv.cases hr
      rcases h2 with ⟨h2, -⟩ | ⟨b, cur, h2, h3, -⟩
      · exact absurd h2 hA
      · rw [h2]; exact h3
    simp; omega
  exact ⟨Ownv.grown h.o1 hg (q r1 h.o1), Ownv.grown h.o2 hg (q r2 h.o2), Ownv.grown h.o3 hg (q r3 h.o3), h.a12, h.a13, h.a23⟩
theorem own_lt3 {r : RowD} (h : r.own W base) (hA : r.A ≠ none) : blk r.A < W.heap.size := by
  obtain ⟨-, h2⟩ := Ownv.cases h
  rcases h2 with ⟨h2, -⟩ | ⟨b, cur, h2, h3, h4, -⟩
  · exact absurd h2 hA
  · rw [h2]; exact heap_lt' h4
theorem own_beside {r q : RowD} (hq : q.own W base) (hg : W.grownBy W' r.val.ownBlock) (hap : Apart r.A q.A) : q.own W' base := by
  refine Ownv.grown hq hg (fun hb he => ?_)
  unfold RowD.val at he
  cases hA : r.A with
  | none => rw [hA] at he; simp [Value.ownBlock] at he
  | some ad =>
    rw [hA] at he
    simp [Value.ownBlock] at he
    exact hap (by simp [hA]) hb (by rw [he, hA]; rfl)
theorem apart_next {r q : RowD} {g : Nat} (hq : q.own W base) (hap : Apart r.A q.A) (h : r.A ≠ none ∧ g = blk r.A ∨ g = W.heap.size) : Apart (some ⟨g, 0, none⟩) q.A := by
  intro _ hb he
  have he' : g = blk q.A := he
  rcases h with ⟨hA, h⟩ | h
  · exact hap hA hb (by rw [← h]; exact he')
  · have := own_lt3 hq hb; omega
end
section
variable {w wr w' : World} {bf bg N bA cap base : Nat} {F G : Nat → List Int}
theorem Sw.grownR (h : Sw w bf bg N bA cap wr F G) {row : Option Nat} (hg : wr.grownBy w' row) (hr : ∀ g, row = some g → base ≤ g) (h1 : bf < base) (h2 : bg < base) (h3 : bA < base) (h4 : w.heap.size ≤ base) : Sw w bf bg N bA cap w' F G := by
  have q : ∀ b, b < base → b < wr.heap.size → w'.heap[b]? = wr.heap[b]? := fun b hb hs => hg.block b hs (fun e => by have := hr b e.symm; omega)
  refine ⟨⟨(q bf h1 h.f.blk.lt).trans h.f.blk, h.f.l8⟩, ⟨(q bg h2 h.g.blk.lt).trans h.g.blk, h.g.l8⟩, h.r.grown hg (fun _ e => ?_), h.bl.grown hg h.bl.size (fun k hk => Nat.le_trans h4 (hr k hk))⟩
  have := hr bA e.symm
  omega
theorem Blk.grownR {b : Nat} {t : TypeId} {cs : List Value} (h : Blk wr b t cs) {row : Option Nat} (hg : wr.grownBy w' row) (hr : ∀ g, row = some g → base ≤ g) (hb : b < base) : Blk w' b t cs :=
  (hg.block b h.lt (fun e => by have := hr b e.symm; omega)).trans h
end
end Go.Proofs.YtpdalbckmfadbaaGreat

namespace Go.Proofs.YtpdalbckmfadbaaGreat
open Go.RowKit
set_option linter.unusedVariables false
theorem grow_any (n : Nat) (w : World) (hn : n ≤ 1000000) :
    Calls Tryz.prog 113 #[.slice none 0 0, .int .i64 n] w fun e w' => ∃ A' c', e = .returned (.slice A' 0 c') ∧ Ownv 5 w' w.heap.size A' 0 c' [] ∧ Below w.heap.size w w' := by
  by_cases h0 : n = 0
  · subst h0
    go_enter Tryz.func113, Tryz.ntmps113
    go_wp2
    go_ret
    exact ⟨none, 0, rfl, Ownv.nilv 5 w _, Below.refl _ _⟩
  · have h1 : (0 : Int) < (n : Int) := by omega
    go_enter Tryz.func113, Tryz.ntmps113
    go_wp2_with (at_builtin; go_loud (refine list_of rfl fun K hK => wp_appz _ _ 22 3 rfl el26 (kn := .i64) (by kernel_rfl) rfl n rfl rfl rfl (Ownv.nilv 5 w w.heap.size) (by omega) (by omega) (Nat.le_refl _) ?_); intro A' c' w' hO hg; have hsl := fun W => Rdv.slh hO.rd el26 .i64 (Nat.zero_le c') W; refine hK _ _ ?_; clear hK K)
    go_ret
    exact ⟨A', c', rfl, Ownv.upto hO (Nat.zero_le _), (Below.refl _ _).grown hg (Nat.le_refl _) (by simp [Value.ownBlock])⟩
theorem el100 : El Tryz.prog 49 22 (.slice none 0 0) 24 := ⟨by kernel_rfl, by kernel_rfl, fun _ => by kernel_rfl, rfl⟩
/-- A slice value and what it reads as. -/
structure Sv where
  A : Option Addr
  n : Nat
  c : Nat
  xs : List Int
def Sv.v (s : Sv) : Value := .slice s.A s.n s.c
def flat (L : List Sv) (j : Nat) : List Int := (L.take j).flatMap (·.xs)
def tot (L : List Sv) (j : Nat) : Nat := ((L.take j).map (·.n)).sum
theorem take_get {L : List Sv} {j : Nat} {s : Sv} (h : L[j]? = some s) : L.take (j + 1) = L.take j ++ [s] := by
  rw [List.take_add_one, h]; rfl
theorem flat_succ {L : List Sv} {j : Nat} {s : Sv} (h : L[j]? = some s) : flat L (j + 1) = flat L j ++ s.xs := by
  unfold flat; rw [take_get h, List.flatMap_append]; simp
theorem tot_succ {L : List Sv} {j : Nat} {s : Sv} (h : L[j]? = some s) : tot L (j + 1) = tot L j + s.n := by
  unfold tot; rw [take_get h, List.map_append, List.sum_append]; simp
theorem tot_le {L : List Sv} {j k : Nat} (h : j ≤ k) : tot L j ≤ tot L k := by
  induction k with
  | zero => obtain rfl : j = 0 := by omega
            exact Nat.le_refl _
  | succ k ih =>
    by_cases hj : j = k + 1
    · subst hj; exact Nat.le_refl _
    · refine Nat.le_trans (ih (by omega)) ?_
      unfold tot
      rw [List.take_add_one, List.map_append, List.sum_append]; omega
def Cc1 (L : List Sv) (n : Nat) (sz i : Value) : Prop := ∃ j : Nat, j ≤ n ∧ i = .int .i64 j ∧ sz = .int .i64 (tot L j : Int)
def Cc2 (w1 : World) (B : Nat) (L : List Sv) (n : Nat) (out i : Value) (wr : World) : Prop := ∃ (j : Nat) (A : Option Addr) (c : Nat), j ≤ n ∧ i = .int .i64 j ∧ out = .slice A (tot L j) c ∧ Own .u8 5 wr B A (tot L j) c (flat L j) ∧ Below w1.heap.size w1 wr
set_option maxHeartbeats 800000 in
theorem concat_any (A : Option Addr) (n c : Nat) (L : List Sv) (w : World) (h : Rdv w A n c (L.map Sv.v)) (hs : ∀ s ∈ L, Rd .u8 w s.A s.n s.c s.xs) (ht : tot L n ≤ 1000000) :
    Calls Tryz.prog 67 #[.slice A n c] w fun e w' => ∃ A' c', e = .returned (.slice A' (tot L n) c') ∧ Own .u8 5 w' w.heap.size A' (tot L n) c' (flat L n) ∧ Below w.heap.size w w' := by
  have hbd := h.bd.1
  have hl := h.len
  rw [List.length_map] at hl
  have HL := Lib.hid hl; clear hl
  have hget : ∀ j, j < n → ∃ s, L[j]? = some s ∧ w.cell? (adr A j) = some (.slice s.A s.n s.c) ∧ Rd .u8 w s.A s.n s.c s.xs := fun j hj => by
    have hj' : j < L.length := by rw [HL.out]; exact hj
    exact ⟨L[j], List.getElem?_eq_getElem hj', h.at_ j _ (by simp [hj', Sv.v]), hs _ (List.getElem_mem hj')⟩
  have HG := Lib.hid hget; clear hget hs
  go_enter Tryz.func67, Tryz.ntmps67
  go_wp2
  go_loop [3, 11] (fun sz i => Cc1 L n sz i) (fun _ i => n - (intOf i).toNat)
  case atStart => exact ⟨0, by omega, rfl, rfl⟩
  case round =>
    obtain ⟨j, hj, rfl, rfl⟩ := hrel
    by_cases hlt : j < n
    · obtain ⟨s, hs, hc, hR⟩ := HG.out j hlt
      have hix := fun W => Rdv.ix h el100 hlt .i64 W
      have hts := tot_succ hs
      have htl := tot_le (L := L) (show j + 1 ≤ n by omega)
      have HTS := Lib.hid hts
      have HS := Lib.hid hs
      have hb3 : tot L j + s.n ≤ 1000000 := by omega
      clear hts hs
      go_wp2
      go_round
      case rel => exact ⟨j + 1, by omega, by go_num, by rw [HTS.out]; go_num⟩
      case measure => simp [intOf]; omega
    · obtain rfl : j = n := by omega
      go_wp2_with (go_at_call 113; refine (grow_any _ _ (by omega)).mono ?_; rintro e w1 ⟨A1, c1, rfl, hO1, hB1⟩)
      go_loopw [6, 27] (fun out i wr => Cc2 w w.heap.size L j out i wr) (fun _ i _ => j - (intOf i).toNat)
      case atStart => exact ⟨0, A1, c1, by omega, rfl, rfl, Own.of_eq hO1 rfl rfl, hB1⟩
      case round =>
        obtain ⟨q, A2, c2, hq, rfl, rfl, hO2, hB2⟩ := hrel
        by_cases hlq : q < j
        · obtain ⟨s, hs, hc, hR⟩ := HG.out q hlq
          have hh2 := Rdv.below h hB2
          have hix := fun W => Rdv.ix hh2 el100 hlq .i64 W
          have hc2 := (hB2.cell (p := adr A q) (World.block_lt_of_cell? w _ hc)).trans hc
          have hR2 := Rdv.below hR hB2
          have hts := tot_succ hs
          have htl := tot_le (L := L) (show q + 1 ≤ j by omega)
          have HTS := Lib.hid hts
          have HS := Lib.hid hs
          have hb3 : tot L q + s.n ≤ 1000000 := by omega
          have hsz := hB2.size
          clear hts hs hc
          go_wp2_with (at_builtin; go_loud (refine list_of rfl fun K hK => wp_app _ _ 22 rfl el26 rfl rfl hO2 hR2 (oneCell_ints .u8 _) (by omega) (by unfold maxLen; omega) hsz ?_); intro A' c' w' hO' hg; refine hK _ _ ?_; clear hK K)
          go_roundw
          case rel => exact ⟨q + 1, A', c', by omega, by go_num, by rw [HTS.out], Own.of_eq hO' HTS.out.symm (by rw [flat_succ HS.out, List.map_append]), hB2.grown hg hsz (fun k hk => Ownv.ob' hO2 hk)⟩
          case measure => simp [intOf]; omega
        · obtain rfl : q = j := by omega
          go_wp2
          go_ret
          exact ⟨A2, c2, rfl, hO2, hB2⟩

end Go.Proofs.YtpdalbckmfadbaaGreat

namespace Go.Proofs.YtpdalbckmfadbaaGreat
open Go.RowKit
set_option linter.unusedVariables false
theorem Rdv.slhm {P : Program} {w : World} {A : Option Addr} {n c : Nat} {vs : List Value} (h : Rdv w A n c vs) {t e : TypeId} {z : Value} {bytes : Nat} (E : El P t e z bytes) (kh km : IntKind) {m : Nat} (hm : m ≤ c) (W : World) :
    (Instr.sliceAt t (.slice A n c) none (some (.int kh (m : Int))) (some (.int km (m : Int)))).run P W = .ok (.slice A m m) W := by
  have e1 : P.underlying t = some (.slice (P.elem t)) := by rw [E.u]; simp [Program.elem, E.u]
  have e2 : P.elem t = e := by simp [Program.elem, E.u]
  rw [run_sliceAt_slice W t _ _ _ _ e1, run_slice_hm W t A n c e1 kh km m m (by omega) (by omega) (by omega), e2, E.s]
  simp only [Result.andThen_ok, Int.toNat_natCast, sliced, Nat.zero_mul, Nat.sub_zero]
  congr 2
  split
  · rfl
  · cases A <;> simp [Addr.add]
theorem Rdv.capn {w : World} {A : Option Addr} {n c : Nat} {vs : List Value} (h : Rdv w A n c vs) : Rdv w A n n vs := by
  have hle := h.le
  exact ⟨h.len, Nat.le_refl _, Nat.le_trans hle h.cm, fun e => by have := h.nil e; omega, fun hn => h.spot (by omega), fun hn => h.lt (by omega), h.at_⟩
def u3 (f : Nat → Bool) : List Int := [ib (f 0), ib (f 1), ib (f 2)]
end Go.Proofs.YtpdalbckmfadbaaGreat

namespace Go.Proofs.YtpdalbckmfadbaaGreat
open Go.RowKit
set_option linter.unusedVariables false
/-- the values with some indices -/
def pk (xs l : List Int) : List Int := l.map fun i => gi xs i.toNat
theorem pk_len (xs l : List Int) : (pk xs l).length = l.length := by simp [pk]
theorem gi_pk {xs l : List Int} {j : Nat} (h : j < l.length) : gi (pk xs l) j = gi xs (gi l j).toNat := by
  rw [gi_eq _ _ (by rw [pk_len]; exact h), gi_eq l j h]; simp [pk]
end Go.Proofs.YtpdalbckmfadbaaGreat

namespace Go.Proofs.YtpdalbckmfadbaaGreat
open Go.RowKit
set_option linter.unusedVariables false
theorem cell_below {w w' : World} {p : Addr} {v : Value} (hc : w.cell? p = some v) (h : Below w.heap.size w w') : w'.cell? p = some v := (h.cell (World.block_lt_of_cell? w _ hc)).trans hc
theorem size_any (A : Option Addr) (n c : Nat) (w : World) (hn : n ≤ 1000000) : Calls Tryz.prog 86 #[.slice A n c] w fun e w' => e = .returned (.int .i64 ((n : Int) / 3 - 4)) ∧ w = w' := by
  have a1 : (n : Int).tdiv 3 = (n : Int) / 3 := Int.tdiv_eq_ediv_of_nonneg (by omega)
  have a2 : IntKind.i64.wrap ((n : Int) / 3) = (n : Int) / 3 := by rw [IntKind.wrap_i64]; omega
  have a3 : IntKind.i64.wrap ((n : Int) / 3 - 4) = (n : Int) / 3 - 4 := by rw [IntKind.wrap_i64]; omega
  go_enter Tryz.func86, Tryz.ntmps86
  go_wp2
  go_ret
  exact ⟨rfl, rfl⟩
theorem bsoft_any (v : Int) (w : World) : Calls Tryz.prog 87 #[.int .i64 v] w fun e w' => e = .returned (.bool (!decide (-127 ≤ v ∧ v ≤ 127))) ∧ w = w' := by
  by_cases h1 : v < -127
  · rw [show decide (-127 ≤ v ∧ v ≤ 127) = false from by simp; omega]
    go_enter Tryz.func87, Tryz.ntmps87
    go_wp2
    go_ret
    exact ⟨rfl, rfl⟩
  · rw [show decide (-127 ≤ v ∧ v ≤ 127) = !decide (127 < v) from by rw [Bool.eq_iff_iff]; simp; omega, Bool.not_not]
    go_enter Tryz.func87, Tryz.ntmps87
    go_wp2
    go_ret
    exact ⟨rfl, rfl⟩
set_option maxHeartbeats 400000 in
theorem bidx_any (A : Option Addr) (n c : Nat) (xs : List Int) (w : World) (h : Rd .i64 w A n c xs) :
    Calls Tryz.prog 122 #[.slice A n c, .func (.func 87) #[] #[]] w (SPost (SoftB xs) w) := by
  have hbd := h.bd.1
  go_enter Tryz.func122, Tryz.ntmps122
  go_wp2
  go_loop [8] (fun i => SIdx n xs i) (fun i => n - (intOf i).toNat)
  case atStart => exact ⟨0, by omega, rfl, by intro q hq; omega⟩
  case round =>
    obtain ⟨j, hj, rfl, hv⟩ := hrel
    by_cases hlt : j < n
    · have hc := Rd.cell h hlt
      have hix := fun W => Rdv.ix h el22 hlt .i64 W
      have HV := Lib.hid hv; clear hv
      by_cases h1 : -127 ≤ gi xs j ∧ gi xs j ≤ 127
      · have h1' : (!decide (-127 ≤ gi xs j ∧ gi xs j ≤ 127)) = false := by simp; omega
        have H1 := Lib.hid h1; clear h1
        go_wp2_with (go_at_call 87; refine (bsoft_any _ _).mono ?_; rintro e w' ⟨rfl, rfl⟩; rw [h1'])
        go_round
        case rel => exact ⟨j + 1, by omega, by go_num, fun q hq => lt_succ_cases HV.out H1.out q hq⟩
        case measure => simp [intOf]; omega
      · have h1' : (!decide (-127 ≤ gi xs j ∧ gi xs j ≤ 127)) = true := by simp; omega
        have hf := Lib.hid (softB_f (by rw [h.len]; exact hlt) h1)
        clear h1
        go_wp2_with (go_at_call 87; refine (bsoft_any _ _).mono ?_; rintro e w' ⟨rfl, rfl⟩; rw [h1'])
        go_ret
        exact ⟨_, rfl, by rw [hf.out]; simp, rfl⟩
    · have hf := Lib.hid (softB_t (xs := xs) (by rw [h.len]; intro q hq; exact hv q (by omega)))
      clear hv
      go_wp2
      go_ret
      exact ⟨_, rfl, by rw [hf.out]; simp, rfl⟩
theorem bcont_any (A : Option Addr) (n c : Nat) (xs : List Int) (w : World) (h : Rd .i64 w A n c xs) :
    Calls Tryz.prog 80 #[.slice A n c, .func (.func 87) #[] #[]] w fun e w' => e = .returned (.bool (!SoftB xs)) ∧ w = w' := by
  go_enter Tryz.func80, Tryz.ntmps80
  go_wp2_with (go_at_call 122; refine (bidx_any A n c xs w h).mono ?_; rintro e w' ⟨r, rfl, hr, rfl⟩)
  go_ret
  refine ⟨ret_bool ?_, rfl⟩
  cases hv : SoftB xs <;> simp_all
def PkII (w : World) (n : Nat) (Am : Option Addr) (g : Int → Int) (l : List Int) (i : Value) (wr : World) : Prop := ∃ (j : Nat) (cur : List Int), j ≤ n ∧ i = .int .i64 (j : Int) ∧ Own .i64 3 wr w.heap.size Am n n cur ∧ (∀ q, q < j → gi cur q = g (gi l q)) ∧ Below w.heap.size w wr
set_option maxRecDepth 100000 in
set_option maxHeartbeats 1000000 in
theorem pickedA_any (p1 : Value) (g : Int → Int) (A : Option Addr) (n c : Nat) (l : List Int) (w : World) (hl : Rd .i64 w A n c l) (hn : n ≤ 100000)
    (hcl : ∀ j, j < n → ∀ wr, Below w.heap.size w wr → Calls Tryz.prog 138 #[.int .i64 (gi l j), p1] wr fun e w' => e = .returned (.int .i64 (g (gi l j))) ∧ wr = w') :
    Calls Tryz.prog 95 #[.func (.func 138) #[] #[p1], .slice A n c] w fun e w' => ∃ A', e = .returned (.slice A' n n) ∧ Own .i64 3 w' w.heap.size A' n n (l.map g) ∧ Below w.heap.size w w' := by
  have HC := Lib.hid hcl
  have HL := Lib.hid hl
  have hll := hl.len
  clear hcl hl
  go_enter Tryz.func95, Tryz.ntmps95
  go_wp2_with (at_make; refine list_of rfl fun K hK => wp_mk (n := n) _ _ 34 rfl el22 rfl rfl (by omega) (by unfold maxLen; omega) ?_
               intro Am w3 hO3 hB3 hA
               have HO3 := Lib.hid hO3
               have HB3 := Lib.hid hB3
               clear hO3 hB3 hA
               refine hK _ _ ?_
               clear hK K)
  go_loopw [13] (fun i wr => PkII w n Am g l i wr) (fun i _ => n - (intOf i).toNat)
  case atStart => exact ⟨0, List.replicate n 0, Nat.zero_le _, rfl, by have := HO3.out; unfold Own; simpa using this, fun q hq => by omega, HB3.out⟩
  case round =>
    obtain ⟨j, cur, hj, rfl, hO, hsame, hB⟩ := hrel
    have HB := Lib.hid hB
    have HS := Lib.hid hsame
    by_cases hlt : j < n
    · have hrl := Rdv.below HL.out hB
      have cl := Rd.cell hrl hlt
      have il := fun W => Rdv.ix hrl el22 hlt .i64 W
      have hcu := Rd.cell (Own.rd hO) hlt
      have hfu := Ownv.frozen hO (by omega) j
      have hiu := fun W => Rdv.ix (Own.rd hO) el22 hlt .i64 W
      have hcall := Lib.hid (HC.out j hlt wr hB)
      obtain ⟨x, hx⟩ : ∃ x, gi l j = x := ⟨_, rfl⟩
      rw [hx] at cl hcall
      have HXE := Lib.hid hx
      obtain ⟨u, hu⟩ : ∃ u, g x = u := ⟨_, rfl⟩
      rw [hu] at hcall
      have HUE := Lib.hid hu
      have HST := Lib.hid (Own.set_ hO hlt u)
      have hbA := (Ownv.blk_ge hO (by omega)).1
      have HB2 := Lib.hid (hB.grown (Own.set_ hO hlt u).2 hB.size (fun k e => by cases e; exact hbA))
      have hcl := Rd.len (Own.rd hO)
      clear hO hB hsame hx hu
      go_wp2_with fail
      refine hcall.out.mono ?_
      rintro e w4 ⟨rfl, rfl⟩
      go_wp2
      go_roundw
      case rel => exact ⟨j + 1, cur.set j u, by omega, by go_num, HST.out.1, lt_succ_cases (fun q hq => by rw [gi_set' _ _ _ _ (by omega), if_neg (by omega)]; exact HS.out q hq) (by rw [gi_set' _ _ _ _ (by omega), if_pos rfl, HXE.out, HUE.out]), HB2.out⟩
      case measure => simp [intOf]; omega
    · obtain rfl : j = n := by omega
      have hle := Rd.len (Own.rd hO)
      have HLE := Lib.hid (show cur = l.map g from ext_gi (by rw [List.length_map]; omega) fun q hq => by
        rw [hsame q (by omega), gi_eq (l.map g) q (by rw [List.length_map]; omega), List.getElem_map, gi_eq l q (by omega)])
      have HO9 := Lib.hid hO
      clear hO hsame hle hB
      go_wp2
      go_ret
      exact ⟨Am, rfl, by rw [← HLE.out]; exact HO9.out, HB.out⟩
set_option maxRecDepth 100000 in
set_option maxHeartbeats 1000000 in
theorem pickedI_any (p1 : Value) (g : Int → Int) (A : Option Addr) (n c : Nat) (l : List Int) (w : World) (hl : Rd .i64 w A n c l) (hn : n ≤ 100000)
    (hcl : ∀ j, j < n → ∀ wr, Below w.heap.size w wr → Calls Tryz.prog 94 #[.int .i64 (gi l j), p1] wr fun e w' => e = .returned (.int .i64 (g (gi l j))) ∧ wr = w') :
    Calls Tryz.prog 95 #[.func (.func 94) #[] #[p1], .slice A n c] w fun e w' => ∃ A', e = .returned (.slice A' n n) ∧ Own .i64 3 w' w.heap.size A' n n (l.map g) ∧ Below w.heap.size w w' := by
  have HC := Lib.hid hcl
  have HL := Lib.hid hl
  have hll := hl.len
  clear hcl hl
  go_enter Tryz.func95, Tryz.ntmps95
  go_wp2_with (at_make; refine list_of rfl fun K hK => wp_mk (n := n) _ _ 34 rfl el22 rfl rfl (by omega) (by unfold maxLen; omega) ?_
               intro Am w3 hO3 hB3 hA
               have HO3 := Lib.hid hO3
               have HB3 := Lib.hid hB3
               clear hO3 hB3 hA
               refine hK _ _ ?_
               clear hK K)
  go_loopw [13] (fun i wr => PkII w n Am g l i wr) (fun i _ => n - (intOf i).toNat)
  case atStart => exact ⟨0, List.replicate n 0, Nat.zero_le _, rfl, by have := HO3.out; unfold Own; simpa using this, fun q hq => by omega, HB3.out⟩
  case round =>
    obtain ⟨j, cur, hj, rfl, hO, hsame, hB⟩ := hrel
    have HB := Lib.hid hB
    have HS := Lib.hid hsame
    by_cases hlt : j < n
    · have hrl := Rdv.below HL.out hB
      have cl := Rd.cell hrl hlt
      have il := fun W => Rdv.ix hrl el22 hlt .i64 W
      have hcu := Rd.cell (Own.rd hO) hlt
      have hfu := Ownv.frozen hO (by omega) j
      have hiu := fun W => Rdv.ix (Own.rd hO) el22 hlt .i64 W
      have hcall := Lib.hid (HC.out j hlt wr hB)
      obtain ⟨x, hx⟩ : ∃ x, gi l j = x := ⟨_, rfl⟩
      rw [hx] at cl hcall
      have HXE := Lib.hid hx
      obtain ⟨u, hu⟩ : ∃ u, g x = u := ⟨_, rfl⟩
      rw [hu] at hcall
      have HUE := Lib.hid hu
      have HST := Lib.hid (Own.set_ hO hlt u)
      have hbA := (Ownv.blk_ge hO (by omega)).1
      have HB2 := Lib.hid (hB.grown (Own.set_ hO hlt u).2 hB.size (fun k e => by cases e; exact hbA))
      have hcl := Rd.len (Own.rd hO)
      clear hO hB hsame hx hu
      go_wp2_with fail
      refine hcall.out.mono ?_
      rintro e w4 ⟨rfl, rfl⟩
      go_wp2
      go_roundw
      case rel => exact ⟨j + 1, cur.set j u, by omega, by go_num, HST.out.1, lt_succ_cases (fun q hq => by rw [gi_set' _ _ _ _ (by omega), if_neg (by omega)]; exact HS.out q hq) (by rw [gi_set' _ _ _ _ (by omega), if_pos rfl, HXE.out, HUE.out]), HB2.out⟩
      case measure => simp [intOf]; omega
    · obtain rfl : j = n := by omega
      have hle := Rd.len (Own.rd hO)
      have HLE := Lib.hid (show cur = l.map g from ext_gi (by rw [List.length_map]; omega) fun q hq => by
        rw [hsame q (by omega), gi_eq (l.map g) q (by rw [List.length_map]; omega), List.getElem_map, gi_eq l q (by omega)])
      have HO9 := Lib.hid hO
      clear hO hsame hle hB
      go_wp2
      go_ret
      exact ⟨Am, rfl, by rw [← HLE.out]; exact HO9.out, HB.out⟩
def PkBI (w : World) (n : Nat) (Am : Option Addr) (g : Int → Int) (l : List Int) (i : Value) (wr : World) : Prop := ∃ (j : Nat) (cur : List Int), j ≤ n ∧ i = .int .i64 (j : Int) ∧ Own .u8 5 wr w.heap.size Am n n cur ∧ (∀ q, q < j → gi cur q = g (gi l q)) ∧ Below w.heap.size w wr
set_option maxRecDepth 100000 in
set_option maxHeartbeats 1000000 in
theorem pickedB_any (p1 : Value) (g : Int → Int) (A : Option Addr) (n c : Nat) (l : List Int) (w : World) (hl : Rd .i64 w A n c l) (hn : n ≤ 100000)
    (hcl : ∀ j, j < n → ∀ wr, Below w.heap.size w wr → Calls Tryz.prog 93 #[.int .i64 (gi l j), p1] wr fun e w' => e = .returned (.int .u8 (g (gi l j))) ∧ wr = w') :
    Calls Tryz.prog 96 #[.func (.func 93) #[] #[p1], .slice A n c] w fun e w' => ∃ A', e = .returned (.slice A' n n) ∧ Own .u8 5 w' w.heap.size A' n n (l.map g) ∧ Below w.heap.size w w' := by
  have HC := Lib.hid hcl
  have HL := Lib.hid hl
  have hll := hl.len
  clear hcl hl
  go_enter Tryz.func96, Tryz.ntmps96
  go_wp2_with (at_make; refine list_of rfl fun K hK => wp_mk (n := n) _ _ 22 rfl el26 rfl rfl (by omega) (by unfold maxLen; omega) ?_
               intro Am w3 hO3 hB3 hA
               have HO3 := Lib.hid hO3
               have HB3 := Lib.hid hB3
               clear hO3 hB3 hA
               refine hK _ _ ?_
               clear hK K)
  go_loopw [13] (fun i wr => PkBI w n Am g l i wr) (fun i _ => n - (intOf i).toNat)
  case atStart => exact ⟨0, List.replicate n 0, Nat.zero_le _, rfl, by have := HO3.out; unfold Own; simpa using this, fun q hq => by omega, HB3.out⟩
  case round =>
    obtain ⟨j, cur, hj, rfl, hO, hsame, hB⟩ := hrel
    have HB := Lib.hid hB
    have HS := Lib.hid hsame
    by_cases hlt : j < n
    · have hrl := Rdv.below HL.out hB
      have cl := Rd.cell hrl hlt
      have il := fun W => Rdv.ix hrl el22 hlt .i64 W
      have hcu := Rd.cell (Own.rd hO) hlt
      have hfu := Ownv.frozen hO (by omega) j
      have hiu := fun W => Rdv.ix (Own.rd hO) el26 hlt .i64 W
      have hcall := Lib.hid (HC.out j hlt wr hB)
      obtain ⟨x, hx⟩ : ∃ x, gi l j = x := ⟨_, rfl⟩
      rw [hx] at cl hcall
      have HXE := Lib.hid hx
      obtain ⟨u, hu⟩ : ∃ u, g x = u := ⟨_, rfl⟩
      rw [hu] at hcall
      have HUE := Lib.hid hu
      have HST := Lib.hid (Own.set_ hO hlt u)
      have hbA := (Ownv.blk_ge hO (by omega)).1
      have HB2 := Lib.hid (hB.grown (Own.set_ hO hlt u).2 hB.size (fun k e => by cases e; exact hbA))
      have hcl := Rd.len (Own.rd hO)
      clear hO hB hsame hx hu
      go_wp2_with fail
      refine hcall.out.mono ?_
      rintro e w4 ⟨rfl, rfl⟩
      go_wp2
      go_roundw
      case rel => exact ⟨j + 1, cur.set j u, by omega, by go_num, HST.out.1, lt_succ_cases (fun q hq => by rw [gi_set' _ _ _ _ (by omega), if_neg (by omega)]; exact HS.out q hq) (by rw [gi_set' _ _ _ _ (by omega), if_pos rfl, HXE.out, HUE.out]), HB2.out⟩
      case measure => simp [intOf]; omega
    · obtain rfl : j = n := by omega
      have hle := Rd.len (Own.rd hO)
      have HLE := Lib.hid (show cur = l.map g from ext_gi (by rw [List.length_map]; omega) fun q hq => by
        rw [hsame q (by omega), gi_eq (l.map g) q (by rw [List.length_map]; omega), List.getElem_map, gi_eq l q (by omega)])
      have HO9 := Lib.hid hO
      clear hO hsame hle hB
      go_wp2
      go_ret
      exact ⟨Am, rfl, by rw [← HLE.out]; exact HO9.out, HB.out⟩
theorem elV : El Tryz.prog 95 3 (.int .i64 0) 8 := ⟨by kernel_rfl, by kernel_rfl, fun _ => by kernel_rfl, rfl⟩
theorem at1_any (B : Nat) (V : Option Addr) (n c : Nat) (vs : List Int) (i : Int) (w : World) (h : Rd .i64 w V n c vs) (hb : w.cell? ⟨B, 0, none⟩ = some (.slice V n c)) (hi : 0 ≤ i ∧ i < n) :
    Calls Tryz.prog 138 #[.int .i64 i, .pointer (some ⟨B, 0, none⟩)] w fun e w' => e = .returned (.int .i64 (gi vs i.toNat)) ∧ w = w' := by
  obtain ⟨j, rfl⟩ : ∃ j : Nat, i = (j : Int) := ⟨i.toNat, by omega⟩
  have hj : j < n := by omega
  have hc := Rd.cell h hj
  have hix := fun W => Rdv.ix h elV hj .i64 W
  rw [Int.toNat_natCast]
  clear hi
  go_enter Tryz.func138, Tryz.ntmps138
  go_wp2
  go_ret
  exact ⟨rfl, rfl⟩
set_option maxRecDepth 100000 in
theorem at_any (V L : Option Addr) (n c m d : Nat) (vs l : List Int) (w : World) (h : Rd .i64 w V n c vs) (hl : Rd .i64 w L m d l) (hm : m ≤ 100000) (hi : ∀ j, j < m → 0 ≤ gi l j ∧ gi l j < (n : Int)) :
    Calls Tryz.prog 92 #[.slice V n c, .slice L m d] w fun e w' => ∃ A', e = .returned (.slice A' m m) ∧ Own .i64 3 w' w.heap.size A' m m (pk vs l) ∧ Below w.heap.size w w' := by
  have hsl := fun W => Rdv.slhm hl el22 .i64 .i64 (Rdv.le hl) W
  have HB0 := Lib.hid (bal (Below.refl _ w) (.cells #[.slice V n c] 95))
  have HK0 : Hid ((w.alloc (.cells #[.slice V n c] 95)).cell? ⟨w.heap.size, 0, none⟩ = some (.slice V n c)) := Lib.hid ((Blk.new w [.slice V n c] 95 rfl).cell rfl)
  have H1 := Lib.hid (h.alloc (.cells #[.slice V n c] 95))
  have HL1 := Lib.hid ((Rdv.capn hl).alloc (.cells #[.slice V n c] 95))
  have HI := Lib.hid hi
  clear hi h hl
  go_enter Tryz.func92, Tryz.ntmps92
  go_wp2_with fail
  refine (pickedA_any (.pointer (some ⟨w.heap.size, 0, none⟩)) (fun i => gi vs i.toNat) L m m l _ HL1.out hm (fun j hj wr hB => at1_any w.heap.size V n c vs _ wr (Rdv.below H1.out hB) (cell_below HK0.out hB) (HI.out j hj))).mono ?_
  rintro e w1 ⟨A', rfl, hO, hB⟩
  have HO := Lib.hid (Ownv.mono hO (show w.heap.size ≤ _ from HB0.out.size))
  have HB := Lib.hid (HB0.out.trans (hB.mono HB0.out.size))
  clear hO hB
  go_wp2
  go_ret
  exact ⟨A', rfl, HO.out, HB.out⟩
end Go.Proofs.YtpdalbckmfadbaaGreat

