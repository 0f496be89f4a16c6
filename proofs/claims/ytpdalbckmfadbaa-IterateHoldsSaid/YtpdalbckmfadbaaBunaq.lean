/-
  Bundle of the texts TuZf. Conditions: none.
-/
import Derived.Test.YtpdalbckmfadbaaBunap
import Derived.Deep.AppendLies
namespace Go.Proofs.Ytpdalbckmfadbaa.Tu
open Go.RowKit
set_option linter.unusedVariables false
/-- Two rows lie in different blocks. -/
def Apart (A B : Option Addr) : Prop := A ≠ none → B ≠ none → blk A ≠ blk B
/-- append a literal to a row of integers: where the new row lies -/
theorem wp_appi {P : Program} {w w0 : World} {A : Option Addr} {n c m gx : Nat} {xs us : List Int} {o : Oper} {a : Act} {K : Act → World → Prop} {Q : Exit → Act → World → Prop} (s x : Operand) (t : TypeId)
    (ho : o.op = .call { callee := .builtin .append, args := #[s, x], argTypes := #[t, t] }) {z : Value} (hE : El P t 3 z 8) (hs : a.eval s = .slice A n c) (hx : a.eval x = .slice (some ⟨gx, 0, none⟩) m m)
    (hB : Below w0.heap.size w0 w) (hO : Own .i64 3 w w0.heap.size A n c xs) (hX : w.heap[gx]? = some (.cells (us.map (Value.int .i64)).toArray 3 (0, 0))) (hm : 0 < m) (hl : us.length = m) (hn : n + m ≤ 100000)
    (h : ∀ g c' w', Own .i64 3 w' w0.heap.size (some ⟨g, 0, none⟩) (n + m) c' (xs ++ us) → Below w0.heap.size w0 w' → w.grownBy w' ((Value.slice A n c).ownBlock) → (A ≠ none ∧ g = blk A ∨ g = w.heap.size) → K (a.put o.dst (.slice (some ⟨g, 0, none⟩) (n + m) c')) w') : o.wp P a w K Q := by
  obtain ⟨i, hi, hz0, hz1, hz2⟩ := info_parts hE.i
  refine wp_append_lies w s x t ho w0.heap.size 3 i z 1 8 hE.u hi hz0 hz1 hz2 (by rw [hE.z1]; rfl) (by decide) _ n _ hs hO.ow ⟨gx, 0, none⟩ m m (us.map (Value.int .i64)) hx (by simp [hl]) ?_ (oneCell_ints .i64 us) hm (by unfold maxLen; omega) (by omega) hB.size _ rfl ?_
  · have := World.news_of_block hX
    simpa using this
  · intro g cap w' h2 h3 h4 h5
    refine h g cap w' ?_ (hB.grown h3 hB.size (fun k hk => Ownv.ob' hO hk)) h3 ?_
    · exact Own.of_eq ⟨h2⟩ rfl (by rw [List.map_append])
    · rcases h4 with h4 | h4
      · left
        cases A with
        | none => simp [Value.ownBlock] at h4
        | some ad => simp [Value.ownBlock] at h4; exact ⟨by simp, by rw [← h4]; rfl⟩
      · exact .inr h4
theorem own_lt {e : TypeId} {w : World} {base : Nat} {A : Option Addr} {n c : Nat} {vs : List Value} (h : Ownv e w base A n c vs) (hA : A ≠ none) : blk A < w.heap.size := (Ownv.blk_of h hA).2
/-- the row beside stays -/
theorem own_beside {k : IntKind} {e : TypeId} {w w' : World} {base : Nat} {A B : Option Addr} {n c m d : Nat} {ys : List Int} (hB : Own k e w base B m d ys) (hg : w.grownBy w' ((Value.slice A n c).ownBlock)) (hap : Apart A B) : Own k e w' base B m d ys := by
  refine Ownv.grown hB hg (fun hb he => ?_)
  cases A with
  | none => simp [Value.ownBlock] at he
  | some ad =>
    simp [Value.ownBlock] at he
    exact hap (by simp) hb (by rw [he]; rfl)
theorem apart_next {k : IntKind} {e : TypeId} {w : World} {base : Nat} {A B : Option Addr} {g m d : Nat} {ys : List Int} (hB : Own k e w base B m d ys) (hap : Apart A B) (h : A ≠ none ∧ g = blk A ∨ g = w.heap.size) : Apart (some ⟨g, 0, none⟩) B := by
  intro _ hb he
  have he' : g = blk B := he
  rcases h with ⟨hA, h⟩ | h
  · exact hap hA hb (by rw [← h]; exact he')
  · have := own_lt hB hb; omega
theorem Apart.symm {A B : Option Addr} (h : Apart A B) : Apart B A := fun hb ha he => h ha hb he.symm
def sysL (k code : Nat) : List Int := (stepsP k code).map Prod.fst
def parI (k code : Nat) : List Int := (stepsP k code).map Prod.snd
/-- the lists of the reference's layout so far -/
def sysP (k code j : Nat) : List Int := (List.range j).map fun q => gi (osL k code) q
def parP (k code j : Nat) : List Int := (List.range j).map fun q : Nat => ((code * (k + 4) + q : Nat) : Int)
theorem sysP_succ (k code j : Nat) : sysP k code (j + 1) = sysP k code j ++ [gi (osL k code) j] := by unfold sysP; rw [List.range_succ, List.map_append]; rfl
theorem parP_succ (k code j : Nat) : parP k code (j + 1) = parP k code j ++ [((code * (k + 4) + j : Nat) : Int)] := by unfold parP; rw [List.range_succ, List.map_append]; rfl
theorem sysL_eq (k code : Nat) : sysL k code = sysP k code k ++ [(atN k code : Int), ((2 * (k + 4) + atN k code : Nat) : Int), ((k + 4 + atN k code + 1 : Nat) : Int)] := by
  unfold sysL stepsP sysP; rw [List.map_append, List.map_map]; rfl
theorem parI_eq (k code : Nat) : parI k code = parP k code k ++ [((k + 4 + atN k code : Nat) : Int), ((atN k code + 1 : Nat) : Int), ((2 * (k + 4) + atN k code + 1 : Nat) : Int)] := by
  unfold parI stepsP parP; rw [List.map_append, List.map_map]; rfl
def RLayInv (w1 : World) (k code : Nat) (i s p : Value) (wr : World) : Prop :=
  ∃ (j : Nat) (A B : Option Addr) (c d : Nat), j ≤ k ∧ i = .int .i64 j ∧ s = .slice A j c ∧ p = .slice B j d ∧ Own .i64 3 wr w1.heap.size A j c (sysP k code j) ∧ Own .i64 3 wr w1.heap.size B j d (parP k code j) ∧ Apart A B ∧ Below w1.heap.size w1 wr
theorem rng_gi {k j : Nat} (h : j < k) : gi (osL k 1) j = (j : Int) := by
  show gi (rngL k) j = _
  rw [gi_eq _ _ (by simp [rngL]; exact h)]
  simp [rngL]
theorem ordR_osL {k : Nat} (hv : validK (k : Int) = true) : ordR (k : Int) = osL k 2 := by unfold ordR; rw [if_pos hv, Int.toNat_natCast]; rfl
end Go.Proofs.Ytpdalbckmfadbaa.Tu

