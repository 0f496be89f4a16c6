/-
  Three rows that grow side by side. Condition: none.
-/
import Derived.Test.YtmdjclfmhndjnaaCf
import Derived.Deep.AppendLies
namespace Go.Proofs.Ytmdjclfmhndjnaa
open Go.RowKit
set_option linter.unusedVariables false
def Apart (A B : Option Addr) : Prop := A ≠ none → B ≠ none → blk A ≠ blk B
theorem Apart.symm {A B : Option Addr} (h : Apart A B) : Apart B A := fun hb ha he => h ha hb he.symm
/-- one row: its kind, its element, where it lies, its length, its capacity, what it reads as -/
structure RowD where
  k : IntKind
  e : TypeId
  A : Option Addr
  n : Nat
  c : Nat
  xs : List Int
def RowD.val (r : RowD) : Value := .slice r.A r.n r.c
def RowD.own (r : RowD) (W : World) (base : Nat) : Prop := Own r.k r.e W base r.A r.n r.c r.xs
structure TT (base : Nat) (W : World) (r1 r2 r3 : RowD) : Prop where
  o1 : r1.own W base
  o2 : r2.own W base
  o3 : r3.own W base
  a12 : Apart r1.A r2.A
  a13 : Apart r1.A r3.A
  a23 : Apart r2.A r3.A
section
variable {base : Nat} {W W' : World} {r1 r2 r3 : RowD}
theorem TT.rot (h : TT base W r1 r2 r3) : TT base W r2 r3 r1 := ⟨h.o2, h.o3, h.o1, h.a23, h.a12.symm, h.a13.symm⟩
theorem TT.below (h : TT base W r1 r2 r3) (hB : Below W.heap.size W W') : TT base W' r1 r2 r3 := ⟨Ownv.below h.o1 hB, Ownv.below h.o2 hB, Ownv.below h.o3 hB, h.a12, h.a13, h.a23⟩
theorem TT.alloc (h : TT base W r1 r2 r3) (o : Obj) : TT base (W.alloc o) r1 r2 r3 := ⟨Ownv.alloc h.o1 o, Ownv.alloc h.o2 o, Ownv.alloc h.o3 o, h.a12, h.a13, h.a23⟩
/-- a store elsewhere -/
theorem TT.grown (h : TT base W r1 r2 r3) {g : Nat} (hg : W.grownBy W' (some g)) (hlt : g < base) : TT base W' r1 r2 r3 := by
  have q : ∀ (r : RowD), r.own W base → r.A ≠ none → some (blk r.A) ≠ some g := fun r hr hA => by
    have : base ≤ blk r.A := by
      obtain ⟨-, h2⟩ := Ownv.cases hr
      rcases h2 with ⟨h2, -⟩ | ⟨b, cur, h2, h3, -⟩
      · exact absurd h2 hA
      · rw [h2]; exact h3
    simp; omega
  exact ⟨Ownv.grown h.o1 hg (q r1 h.o1), Ownv.grown h.o2 hg (q r2 h.o2), Ownv.grown h.o3 hg (q r3 h.o3), h.a12, h.a13, h.a23⟩
theorem own_lt3 {r : RowD} (h : r.own W base) (hA : r.A ≠ none) : blk r.A < W.heap.size := by
  obtain ⟨-, h2⟩ := Ownv.cases h
  rcases h2 with ⟨h2, -⟩ | ⟨b, cur, h2, h3, h4, -⟩
  · exact absurd h2 hA
  · rw [h2]; exact heap_lt' h4
theorem own_beside {r q : RowD} (hq : q.own W base) (hg : W.grownBy W' r.val.ownBlock) (hap : Apart r.A q.A) : q.own W' base := by
  refine Ownv.grown hq hg (fun hb he => ?_)
  unfold RowD.val at he
  cases hA : r.A with
  | none => rw [hA] at he; simp [Value.ownBlock] at he
  | some ad =>
    rw [hA] at he
    simp [Value.ownBlock] at he
    exact hap (by simp [hA]) hb (by rw [he, hA]; rfl)
theorem apart_next {r q : RowD} {g : Nat} (hq : q.own W base) (hap : Apart r.A q.A) (h : r.A ≠ none ∧ g = blk r.A ∨ g = W.heap.size) : Apart (some ⟨g, 0, none⟩) q.A := by
  intro _ hb he
  have he' : g = blk q.A := he
  rcases h with ⟨hA, h⟩ | h
  · exact hap hA hb (by rw [← h]; exact he')
  · have := own_lt3 hq hb; omega
/-- the first of three rows grows by one -/
theorem wp_appT {P : Program} {gx : Nat} {v : Int} {o : Oper} {a : Act} {K : Act → World → Prop} {Q : Exit → Act → World → Prop} (s x : Operand) (t : TypeId)
    (ho : o.op = .call { callee := .builtin .append, args := #[s, x], argTypes := #[t, t] }) {z : Value} {bytes : Nat} (hE : El P t r1.e z bytes) (hs : a.eval s = r1.val) (hx : a.eval x = .slice (some ⟨gx, 0, none⟩) 1 1)
    (T : TT base W r1 r2 r3) (hX : W.heap[gx]? = some (.cells #[.int r1.k v] r1.e (0, 0))) (hn : (r1.n + 1) * bytes ≤ 140737488355328) (hm : r1.n + 1 ≤ maxLen) (hb : base ≤ W.heap.size)
    (h : ∀ g c' w', TT base w' { r1 with A := some ⟨g, 0, none⟩, n := r1.n + 1, c := c', xs := r1.xs ++ [v] } r2 r3 → W.grownBy w' r1.val.ownBlock → K (a.put o.dst (.slice (some ⟨g, 0, none⟩) (r1.n + 1) c')) w') : o.wp P a W K Q := by
  obtain ⟨i, hi, hz0, hz1, hz2⟩ := info_parts hE.i
  refine wp_append_lies W s x t ho base r1.e i z 1 bytes hE.u hi hz0 hz1 hz2 (by rw [hE.z1]; rfl) (by decide) _ r1.n _ hs (show W.ownsRow base r1.e 1 r1.val r1.n (r1.xs.map (Value.int r1.k)) from T.o1.ow) ⟨gx, 0, none⟩ 1 1 ([v].map (Value.int r1.k)) hx (by simp) ?_ (oneCell_ints r1.k [v]) (by decide) hm hn hb _ rfl ?_
  · have hX' : W.heap[gx]? = some (.cells ([v].map (Value.int r1.k)).toArray r1.e (0, 0)) := by simpa using hX
    have := World.news_of_block hX'
    simpa using this
  · intro g cap w' h2 h3 h4 h5
    have hl : r1.A ≠ none ∧ g = blk r1.A ∨ g = W.heap.size := by
      rcases h4 with h4 | h4
      · left
        unfold RowD.val at h4
        cases hA : r1.A with
        | none => rw [hA] at h4; simp [Value.ownBlock] at h4
        | some ad => rw [hA] at h4; simp [Value.ownBlock] at h4; exact ⟨by simp, by rw [← h4]; rfl⟩
      · exact .inr h4
    refine h g cap w' ⟨?_, own_beside T.o2 h3 T.a12, own_beside T.o3 h3 T.a13, apart_next T.o2 T.a12 hl, apart_next T.o3 T.a13 hl, T.a23⟩ h3
    exact Own.of_eq ⟨h2⟩ rfl (by rw [List.map_append])
theorem own_ge {r : RowD} (h : r.own W base) : ∀ g, r.val.ownBlock = some g → base ≤ g := fun g hg => Ownv.ob' h hg
theorem own_blk {r : RowD} : ∀ g, r.val.ownBlock = some g → r.A ≠ none ∧ blk r.A = g := fun g hg => by
  unfold RowD.val at hg
  cases hA : r.A with
  | none => rw [hA] at hg; simp [Value.ownBlock] at hg
  | some ad => rw [hA] at hg; simp [Value.ownBlock] at hg; exact ⟨by simp, by rw [← hg]; rfl⟩
end
section
variable {w wr w' : World} {bf bg N bA cap base : Nat} {F G : Nat → List Int}
theorem Sw.grownR (h : Sw w bf bg N bA cap wr F G) {row : Option Nat} (hg : wr.grownBy w' row) (hr : ∀ g, row = some g → base ≤ g) (h1 : bf < base) (h2 : bg < base) (h3 : bA < base) (h4 : w.heap.size ≤ base) : Sw w bf bg N bA cap w' F G := by
  have q : ∀ b, b < base → b < wr.heap.size → w'.heap[b]? = wr.heap[b]? := fun b hb hs => hg.block b hs (fun e => by have := hr b e.symm; omega)
  refine ⟨⟨(q bf h1 h.f.blk.lt).trans h.f.blk, h.f.l8⟩, ⟨(q bg h2 h.g.blk.lt).trans h.g.blk, h.g.l8⟩, h.r.grown hg (fun _ e => ?_), h.bl.grown hg h.bl.size (fun k hk => Nat.le_trans h4 (hr k hk))⟩
  have := hr bA e.symm
  omega
theorem Blk.grownR {b : Nat} {t : TypeId} {cs : List Value} (h : Blk wr b t cs) {row : Option Nat} (hg : wr.grownBy w' row) (hr : ∀ g, row = some g → base ≤ g) (hb : b < base) : Blk w' b t cs :=
  (hg.block b h.lt (fun e => by have := hr b e.symm; omega)).trans h
end
end Go.Proofs.Ytmdjclfmhndjnaa
