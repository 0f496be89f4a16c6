/-
  Two rows of bytes beside each other: how an append to one of them leaves both. Condition: none.
-/
import Derived.Test.YtkagdiejpcfggaaZm
namespace Go.Proofs.Ytkagdiejpcfggaa
open Go.RowKit
set_option linter.unusedVariables false
theorem loadCells_zero (P : Program) (ad : Addr) (W : World) : (loadCells ad 0).run P W = .ok #[] W := by
  rfl
/-- append to an empty slice without room: what its address is does not matter -/
theorem append_empty {P : Program} {t e : TypeId} {z : Value} {bytes : Nat} (E : El P t e z bytes) (ad : Addr) (B : Option Addr) (m d : Nat) (ty : TypeId) (W : World) (hm : 0 < m) (h63 : m ≤ 9223372036854775807) (hb : m * bytes ≤ 140737488355328) :
    (Builtin.append_ #[t, t] ty #[.slice (some ad) 0 0, .slice B m d]).run P W = (Builtin.append_ #[t, t] ty #[.slice none 0 0, .slice B m d]).run P W := by
  obtain ⟨i, hi, hz0, hz1, hz2⟩ := info_parts E.i
  have h1 : ¬ (m = 0) := by omega
  have h2 : Builtin.nextslicecap m 0 = m := by simp [Builtin.nextslicecap, hm]
  subst hz2
  have h3 : ¬ (281474976710656 < m * i.bytes) := by omega
  have h4 : ¬ (9223372036854775807 < m) := by omega
  have h5 : ¬ ((9223372036854775807 : Int) < (m : Int)) := by omega
  simp [Builtin.append_, run_underlying E.u, sizeOf, typeInfo, hi, hz1, Builtin.lenOf, Builtin.firstCells, loadCells_zero, h1, h2, h3, h4, h5]
/-- two rows of bytes of the call's own, in two blocks -/
structure TR (w0 : World) (A : Option Addr) (n c : Nat) (xs : List Int) (B : Option Addr) (m d : Nat) (ys : List Int) (W : World) : Prop where
  a : Own .u8 5 W w0.heap.size A n c xs
  b : Own .u8 5 W w0.heap.size B m d ys
  ap : Apart A B
  bl : Below w0.heap.size w0 W
section
variable {w0 W : World} {A B : Option Addr} {n c m d : Nat} {xs ys : List Int}
theorem TR.nil (w0 : World) : TR w0 none 0 0 [] none 0 0 [] w0 := ⟨Own.nilv _ _ _ _, Own.nilv _ _ _ _, fun h => absurd rfl h, Below.refl _ _⟩
theorem TR.swap (h : TR w0 A n c xs B m d ys W) : TR w0 B m d ys A n c xs W := ⟨h.b, h.a, h.ap.symm, h.bl⟩
theorem TR.drew (h : TR w0 A n c xs B m d ys W) : TR w0 A n c xs B m d ys W.drew := ⟨Ownv.drew h.a, Ownv.drew h.b, h.ap, h.bl.drew⟩
theorem TR.alloc (h : TR w0 A n c xs B m d ys W) (o : Obj) : TR w0 A n c xs B m d ys (W.alloc o) := ⟨Ownv.alloc h.a o, Ownv.alloc h.b o, h.ap, bal h.bl o⟩
/-- the first row grows by what another slice reads as -/
theorem TR.app {o : Oper} {a : Act} {K : Act → World → Prop} {Q : Exit → Act → World → Prop} {C : Option Addr} {q e : Nat} {us : List Int} (s x : Operand)
    (ho : o.op = .call { callee := .builtin .append, args := #[s, x], argTypes := #[22, 22] }) (hs : a.eval s = .slice A n c) (hx : a.eval x = .slice C q e)
    (T : TR w0 A n c xs B m d ys W) (hC : Rd .u8 W C q e us) (hq : 0 < q) (hn : n + q ≤ 100000)
    (h : ∀ g c' W', TR w0 (some ⟨g, 0, none⟩) (n + q) c' (xs ++ us) B m d ys W' → (∀ (b : Nat) (v : Obj), W.heap[b]? = some v → (A ≠ none → blk A ≠ b) → W'.heap[b]? = some v) → K (a.put o.dst (.slice (some ⟨g, 0, none⟩) (n + q) c')) W') : o.wp Try.prog a W K Q := by
  obtain ⟨i, hi, hz0, hz1, hz2⟩ := info_parts el22.i
  obtain ⟨b, of, rfl, hb⟩ := Rdv.ptr hC (by have := Rdv.le hC; omega)
  refine wp_append_lies W s x 22 ho w0.heap.size 5 i (.int .u8 0) 1 1 el22.u hi hz0 hz1 hz2 rfl (by decide) _ n _ hs T.a.ow ⟨b, of, none⟩ q e (us.map (Value.int .u8)) hx (by simpa using Rd.len hC) (fun j u hj => ?_) (oneCell_ints .u8 us) hq (by unfold maxLen; omega) (by omega) T.bl.size _ rfl ?_
  · have := Rdv.at_ hC j u hj
    rwa [adr_some, ← add_lit] at this
  · intro g cap W' h2 h3 h4 h5
    have hl : A ≠ none ∧ g = blk A ∨ g = W.heap.size := by
      rcases h4 with h4 | h4
      · left
        cases A with
        | none => simp [Value.ownBlock] at h4
        | some ad => simp [Value.ownBlock] at h4; exact ⟨by simp, by rw [← h4]; rfl⟩
      · exact .inr h4
    refine h g cap W' ⟨Own.of_eq ⟨h2⟩ rfl (by rw [List.map_append]), own_beside T.b h3 T.ap, apart_next T.b T.ap hl, T.bl.grown h3 T.bl.size (fun k hk => Ownv.ob' T.a hk)⟩ (fun b' v hb' hne => ?_)
    rw [h3.block b' (heap_lt hb') (by
      cases A with
      | none => simp [Value.ownBlock]
      | some ad => have := hne (by simp); simp [Value.ownBlock]; exact fun e => this e.symm)]
    exact hb'
/-- a first row is made: an append to an empty slice without room -/
theorem TR.app0 {o : Oper} {a : Act} {K : Act → World → Prop} {Q : Exit → Act → World → Prop} {C : Option Addr} {q e : Nat} {us : List Int} {ad : Addr} (s x : Operand)
    (ho : o.op = .call { callee := .builtin .append, args := #[s, x], argTypes := #[22, 22] }) (hs : a.eval s = .slice (some ad) 0 0) (hx : a.eval x = .slice C q e)
    (T : TR w0 none 0 0 [] B m d ys W) (hC : Rd .u8 W C q e us) (hq : 0 < q) (hn : q ≤ 100000)
    (h : ∀ g c' W', TR w0 (some ⟨g, 0, none⟩) q c' us B m d ys W' → K (a.put o.dst (.slice (some ⟨g, 0, none⟩) q c')) W') : o.wp Try.prog a W K Q := by
  obtain ⟨A', c', W', hr, h2, h3⟩ := run_append_rd (P := Try.prog) (tt := 22) (n := 0) (c := 0) (A := none) (base := W.heap.size) ⟨22, .int .u8 0, 1, el22, by omega, by unfold maxLen; omega, rfl⟩ (Ownv.nilv 5 W W.heap.size) hC (oneCell_ints .u8 us) (Nat.le_refl _) o.type
  rw [← append_empty el22 ad C q e o.type W hq (by omega) (by omega)] at hr
  rw [Nat.zero_add, List.nil_append] at h2
  rw [Nat.zero_add] at hr
  have hc' : 0 < c' := by have := (Ownv.rd h2).le; omega
  have hge := (Ownv.blk_ge h2 hc').1
  obtain ⟨g, hg⟩ : ∃ g, A' = some ⟨g, 0, none⟩ := by
    rcases (Ownv.cases h2).2 with ⟨_, h8, _⟩ | ⟨g, cur, h8, _⟩
    · omega
    · exact ⟨g, h8⟩
  subst hg
  have hB : Below W.heap.size W W' := (Below.refl _ W).grown h3 (Nat.le_refl _) (by simp [Value.ownBlock])
  unfold Oper.wp
  simp only [execOp, ho, resolve, invoke, builtin, Sem.run_bind, Sem.run_pure, Result.andThen_ok, List.map_toArray, List.map_cons, List.map_nil, hs, hx, hr]
  refine h g c' W' ⟨Own.of_eq (Ownv.mono h2 T.bl.size) rfl rfl, Ownv.below T.b hB, fun _ hb he => ?_, T.bl.trans (hB.mono T.bl.size)⟩
  have h9 := own_lt T.b hb
  have : blk (some ⟨g, 0, none⟩) = g := rfl
  omega
end
/-- what Bits and Check say of a word -/
theorem bit_wrd {u k : Nat} (hk : k = szK u) {X : List Bool} (hX : X.length = k) : bitE ((wrd X).map ib) = 0 ∧ bitW ((wrd X).map ib) = X.map ib ∧ chkA ((wrd X).map ib) = 0 := by
  have hl : (wrd X).length = 3 * (k + 4) := by rw [wrd_len, hX]
  have hg : goodLen ((wrd X).map ib).length := by rw [List.length_map, hl]; exact good_wrd hk
  refine ⟨by unfold bitE; rw [if_pos hg, if_pos (valid_ib _)], ?_, ?_⟩
  · unfold bitW
    rw [if_pos hg, if_pos (valid_ib _), List.length_map, hl, show 3 * (k + 4) / 3 - 4 = k from by omega, ← List.map_take, ← hX, wrd_take]
  · rw [chk_near hk hX hl (by rw [dst_self]; omega), if_pos rfl]
theorem sel_take (W : List Bool) (L : List Int) (j p : Nat) (hj : j < L.length) (hp : gi L j = (p : Int)) (hpW : p < W.length) :
    (selB W (L.take j)).map ib ++ [gi (W.map ib) p] = (selB W (L.take (j + 1))).map ib := by
  rw [List.take_succ_eq_append_getElem hj, selB_app, List.map_append, gi_ib _ _ hpW]
  rw [gi_eq _ _ hj] at hp
  simp [selB, hp, gB, hpW]
theorem rd_from {k : IntKind} {w : World} {A : Option Addr} {n c l : Nat} {xs : List Int} (h : Rd k w A n c xs) (hl : l ≤ n) : Rd k w (cut A c l) (n - l) (c - l) (xs.drop l) := by
  have := Rd.cut_ h hl (Nat.le_refl n)
  rwa [List.take_of_length_le (by rw [Rd.len h]; exact Nat.le_refl n)] at this
theorem rd_lit1 {W : World} {gx : Nat} {v : Int} (h : W.heap[gx]? = some (.cells #[.int .u8 v] 5 (0, 0))) : Rd .u8 W (some ⟨gx, 0, none⟩) 1 1 [v] :=
  Ownv.rd (Ownv.of_heap (e := 5) (base := 0) (cs := #[.int .u8 v]) h (Nat.zero_le _) (by show 1 ≤ maxLen; unfold maxLen; omega))
def HoldI (w0 : World) (W : List Bool) (k code : Nat) (i a b : Value) (wq : World) : Prop :=
  ∃ (j : Nat) (A B : Option Addr) (c d : Nat), j ≤ k + 3 ∧ i = .int .i64 j ∧ a = .slice A j c ∧ b = .slice B j d ∧ TR w0 A j c ((selB W ((sysL k code).take j)).map ib) B j d ((selB W ((parI k code).take j)).map ib) wq
def HoldC (w0 : World) (n : Nat) (xs ys : List Int) (a b : Value) (wx : World) : Prop :=
  ∃ (A B : Option Addr) (c d : Nat), a = .slice A n c ∧ b = .slice B n d ∧ TR w0 A n c xs B n d ys wx
def GotP (w0 : World) (n : Nat) (xs : List Int) (v : Value) (wx : World) : Prop :=
  ∃ (A : Option Addr) (c : Nat), v = .slice A n c ∧ Own .u8 5 wx w0.heap.size A n c xs ∧ Below w0.heap.size w0 wx
end Go.Proofs.Ytkagdiejpcfggaa
