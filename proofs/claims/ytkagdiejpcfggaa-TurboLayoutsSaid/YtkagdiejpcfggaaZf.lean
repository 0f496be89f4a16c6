/-
  Appends to rows of integers beside each other, and the contract of the reference's Layout. Condition: none.
-/
import Derived.Test.YtkagdiejpcfggaaZe
import Derived.Deep.AppendLies
namespace Go.Proofs.Ytkagdiejpcfggaa
open Go.RowKit
set_option linter.unusedVariables false
/-- Two rows lie in different blocks. -/
def Apart (A B : Option Addr) : Prop := A ≠ none → B ≠ none → blk A ≠ blk B
/-- append a literal to a row of integers: where the new row lies -/
theorem wp_appi {P : Program} {w w0 : World} {A : Option Addr} {n c m gx : Nat} {xs us : List Int} {o : Oper} {a : Act} {K : Act → World → Prop} {Q : Exit → Act → World → Prop} (s x : Operand) (t : TypeId)
    (ho : o.op = .call { callee := .builtin .append, args := #[s, x], argTypes := #[t, t] }) {z : Value} (hE : El P t 3 z 8) (hs : a.eval s = .slice A n c) (hx : a.eval x = .slice (some ⟨gx, 0, none⟩) m m)
    (hB : Below w0.heap.size w0 w) (hO : Own .i64 3 w w0.heap.size A n c xs) (hX : w.heap[gx]? = some (.cells (us.map (Value.int .i64)).toArray 3 (0, 0))) (hm : 0 < m) (hl : us.length = m) (hn : n + m ≤ 100000)
    (h : ∀ g c' w', Own .i64 3 w' w0.heap.size (some ⟨g, 0, none⟩) (n + m) c' (xs ++ us) → Below w0.heap.size w0 w' → w.grownBy w' ((Value.slice A n c).ownBlock) → (A ≠ none ∧ g = blk A ∨ g = w.heap.size) → K (a.put o.dst (.slice (some ⟨g, 0, none⟩) (n + m) c')) w') : o.wp P a w K Q := by
  obtain ⟨i, hi, hz0, hz1, hz2⟩ := info_parts hE.i
  refine wp_append_lies w s x t ho w0.heap.size 3 i z 1 8 hE.u hi hz0 hz1 hz2 (by rw [hE.z1]; rfl) (by decide) _ n _ hs hO.ow ⟨gx, 0, none⟩ m m (us.map (Value.int .i64)) hx (by simp [hl]) ?_ (oneCell_ints .i64 us) hm (by unfold maxLen; omega) (by omega) hB.size _ rfl ?_
  · have := World.news_of_block hX
    simpa using this
  · intro g cap w' h2 h3 h4 h5
    refine h g cap w' ?_ (hB.grown h3 hB.size (fun k hk => Ownv.ob' hO hk)) h3 ?_
    · exact Own.of_eq ⟨h2⟩ rfl (by rw [List.map_append])
    · rcases h4 with h4 | h4
      · left
        cases A with
        | none => simp [Value.ownBlock] at h4
        | some ad => simp [Value.ownBlock] at h4; exact ⟨by simp, by rw [← h4]; rfl⟩
      · exact .inr h4
theorem own_lt {e : TypeId} {w : World} {base : Nat} {A : Option Addr} {n c : Nat} {vs : List Value} (h : Ownv e w base A n c vs) (hA : A ≠ none) : blk A < w.heap.size := (Ownv.blk_of h hA).2
/-- the row beside stays -/
theorem own_beside {k : IntKind} {e : TypeId} {w w' : World} {base : Nat} {A B : Option Addr} {n c m d : Nat} {ys : List Int} (hB : Own k e w base B m d ys) (hg : w.grownBy w' ((Value.slice A n c).ownBlock)) (hap : Apart A B) : Own k e w' base B m d ys := by
  refine Ownv.grown hB hg (fun hb he => ?_)
  cases A with
  | none => simp [Value.ownBlock] at he
  | some ad =>
    simp [Value.ownBlock] at he
    exact hap (by simp) hb (by rw [he]; rfl)
theorem apart_next {k : IntKind} {e : TypeId} {w : World} {base : Nat} {A B : Option Addr} {g m d : Nat} {ys : List Int} (hB : Own k e w base B m d ys) (hap : Apart A B) (h : A ≠ none ∧ g = blk A ∨ g = w.heap.size) : Apart (some ⟨g, 0, none⟩) B := by
  intro _ hb he
  have he' : g = blk B := he
  rcases h with ⟨hA, h⟩ | h
  · exact hap hA hb (by rw [← h]; exact he')
  · have := own_lt hB hb; omega
theorem Apart.symm {A B : Option Addr} (h : Apart A B) : Apart B A := fun hb ha he => h ha hb he.symm
def sysL (k code : Nat) : List Int := (stepsP k code).map Prod.fst
def parI (k code : Nat) : List Int := (stepsP k code).map Prod.snd
set_option maxRecDepth 100000 in
theorem rlay_bad (k code : Int) (w : World) (h : ¬ okCode k code) : Calls Try.prog 18 #[.int .i64 k, .int .i64 code] w fun e w' => e = .returned (.tuple #[.slice none 0 0, .slice none 0 0, .int .i64 2]) ∧ Below w.heap.size w w' := by
  have ho := fun W => Lib.hid (rorder_any k W)
  by_cases hv : validK k = true
  · have e1 : permE k = 0 := by unfold permE; rw [if_pos hv]
    rw [e1] at ho
    by_cases h1 : code < 1
    · have h1' : decide (code < 1) = true := by simpa using h1
      clear h e1
      go_enter Try.func18, Try.ntmps18
      go_wp2_with (go_at_call 32; refine (ho _).out.mono ?_; rintro e w1 ⟨A, n, c, rfl, hO, hB⟩)
      go_ret3
      exact ⟨rfl, hB⟩
    · have h2 : 2 < code := by
        by_cases h2 : code ≤ 2
        · exact absurd ⟨hv, by omega, h2⟩ h
        · omega
      have h1' : decide (code < 1) = false := by simp; omega
      have h2' : decide (2 < code) = true := by simpa using h2
      clear h e1
      go_enter Try.func18, Try.ntmps18
      go_wp2_with (go_at_call 32; refine (ho _).out.mono ?_; rintro e w1 ⟨A, n, c, rfl, hO, hB⟩)
      go_ret3
      exact ⟨rfl, hB⟩
  · have e1 : permE k = 2 := by unfold permE; rw [if_neg hv]
    rw [e1] at ho
    clear h e1 hv
    go_enter Try.func18, Try.ntmps18
    go_wp2_with (go_at_call 32; refine (ho _).out.mono ?_; rintro e w1 ⟨A, n, c, rfl, hO, hB⟩)
    go_ret3
    exact ⟨rfl, hB⟩
/-- the lists of the reference's layout so far -/
def sysP (k code j : Nat) : List Int := (List.range j).map fun q => gi (osL k code) q
def parP (k code j : Nat) : List Int := (List.range j).map fun q : Nat => ((code * (k + 4) + q : Nat) : Int)
theorem sysP_succ (k code j : Nat) : sysP k code (j + 1) = sysP k code j ++ [gi (osL k code) j] := by unfold sysP; rw [List.range_succ, List.map_append]; rfl
theorem parP_succ (k code j : Nat) : parP k code (j + 1) = parP k code j ++ [((code * (k + 4) + j : Nat) : Int)] := by unfold parP; rw [List.range_succ, List.map_append]; rfl
theorem sysL_eq (k code : Nat) : sysL k code = sysP k code k ++ [(atN k code : Int), ((2 * (k + 4) + atN k code : Nat) : Int), ((k + 4 + atN k code + 1 : Nat) : Int)] := by
  unfold sysL stepsP sysP; rw [List.map_append, List.map_map]; rfl
theorem parI_eq (k code : Nat) : parI k code = parP k code k ++ [((k + 4 + atN k code : Nat) : Int), ((atN k code + 1 : Nat) : Int), ((2 * (k + 4) + atN k code + 1 : Nat) : Int)] := by
  unfold parI stepsP parP; rw [List.map_append, List.map_map]; rfl
def RLayInv (w1 : World) (k code : Nat) (i s p : Value) (wr : World) : Prop :=
  ∃ (j : Nat) (A B : Option Addr) (c d : Nat), j ≤ k ∧ i = .int .i64 j ∧ s = .slice A j c ∧ p = .slice B j d ∧ Own .i64 3 wr w1.heap.size A j c (sysP k code j) ∧ Own .i64 3 wr w1.heap.size B j d (parP k code j) ∧ Apart A B ∧ Below w1.heap.size w1 wr
theorem rng_gi {k j : Nat} (h : j < k) : gi (osL k 1) j = (j : Int) := by
  show gi (rngL k) j = _
  rw [gi_eq _ _ (by simp [rngL]; exact h)]
  simp [rngL]
theorem ordR_osL {k : Nat} (hv : validK (k : Int) = true) : ordR (k : Int) = osL k 2 := by unfold ordR; rw [if_pos hv, Int.toNat_natCast]; rfl
set_option maxRecDepth 100000 in
set_option maxHeartbeats 600000 in
theorem rlay1_any (k : Nat) (w : World) (hv : validK (k : Int) = true) : Calls Try.prog 18 #[.int .i64 k, .int .i64 1] w fun e w' => ∃ A c B d, e = .returned (.tuple #[.slice A (k + 3) c, .slice B (k + 3) d, .int .i64 0]) ∧ Own .i64 3 w' w.heap.size A (k + 3) c (sysL k 1) ∧ Own .i64 3 w' w.heap.size B (k + 3) d (parI k 1) ∧ Below w.heap.size w w' := by
  obtain ⟨n0, n1⟩ := valid_len hv
  have ho := fun W => Lib.hid (rorder_any (k : Int) W)
  have e1 : permE (k : Int) = 0 := by unfold permE; rw [if_pos hv]
  rw [e1, ordR_osL hv] at ho
  clear e1 hv
  go_enter Try.func18, Try.ntmps18
  go_wp2_with fail
  refine (ho _).out.mono ?_
  rintro e w1 ⟨D, l, d, rfl, hOD, hB1⟩
  obtain rfl : k = l := by
    have h9 := (Own.rd hOD).len
    rw [show osL k 2 = ordL k from rfl, ordL_len] at h9
    exact h9
  have HOD := Lib.hid hOD
  have HB1 := Lib.hid hB1
  clear hOD hB1 ho
  go_wp2_with fail
  go_loopw [12, 10, 11] (fun i s p wr => RLayInv w1 k 1 i s p wr) (fun i _ _ _ => k - (intOf i).toNat)
  case atStart => exact ⟨0, none, none, 0, 0, by omega, rfl, rfl, rfl, Own.nilv _ _ _ _, Own.nilv _ _ _ _, fun h => absurd rfl h, Below.refl _ _⟩
  case round =>
    obtain ⟨j, A, B, c, d', hj, rfl, rfl, rfl, hS, hP, hap, hB⟩ := hrel
    by_cases hlt : j < k
    · have HS := Lib.hid hS
      have HP := Lib.hid hP
      have HAP := Lib.hid hap
      have HB := Lib.hid hB
      clear hS hP hap hB
      go_wp2_with (first
        | (at_builtin
           refine list_of rfl fun K hK => wp_appi (w0 := w1) (xs := sysP k 1 j) (us := [(j : Int)]) (.tmp 38) (.tmp 40) 33 rfl el33 rfl rfl (bal HB.out _) (Ownv.alloc HS.out _) (heap_new' rfl) (by omega) rfl (by omega) ?_
           intro ga ca wa hOa hBa hga hla
           refine hK _ _ ?_
           clear hK K
           have hp1 := own_beside (Ownv.alloc HP.out _) hga HAP.out
           have hap1 := apart_next (Ownv.alloc HP.out _) HAP.out hla
           have HOa := Lib.hid hOa
           have HBa := Lib.hid hBa
           have HP1 := Lib.hid hp1
           have HAP1 := Lib.hid hap1
           clear hOa hBa hga hla hp1 hap1)
        | (at_builtin
           refine list_of rfl fun K hK => wp_appi (w0 := w1) (xs := parP k 1 j) (us := [((k : Int) + 4 + (j : Int))]) (.tmp 42) (.tmp 46) 33 rfl el33 rfl rfl (bal HBa.out _) (Ownv.alloc HP1.out _) (heap_new' rfl) (by omega) rfl (by omega) ?_
           intro gb cb wb hOb hBb hgb hlb
           refine hK _ _ ?_
           clear hK K
           have hs1 := own_beside (Ownv.alloc HOa.out _) hgb HAP1.out.symm
           have hap2 := apart_next (Ownv.alloc HOa.out _) HAP1.out.symm hlb
           have HOb := Lib.hid hOb
           have HBb := Lib.hid hBb
           have HS1 := Lib.hid hs1
           have HAP2 := Lib.hid hap2
           clear hOb hBb hgb hlb hs1 hap2))
      go_roundw
      case rel => exact ⟨j + 1, _, _, ca, cb, by omega, by go_num, rfl, rfl, Own.of_eq HS1.out rfl (by rw [sysP_succ, rng_gi hlt]), Own.of_eq HOb.out rfl (by rw [parP_succ]; congr 3; omega), HAP2.out.symm, HBb.out⟩
      case measure => simp [intOf]; omega
    · obtain rfl : j = k := by omega
      have HS := Lib.hid hS
      have HP := Lib.hid hP
      have HAP := Lib.hid hap
      have HB := Lib.hid hB
      clear hS hP hap hB
      go_wp2_with (first
        | (at_builtin
           refine list_of rfl fun K hK => wp_appi (w0 := w1) (xs := sysP j 1 j) (us := [(j : Int), (2 * ((j : Int) + 4) + (j : Int)), ((j : Int) + 4 + (j : Int) + 1)]) (.tmp 67) (.tmp 77) 33 rfl el33 rfl rfl (bal HB.out _) (Ownv.alloc HS.out _) (heap_new' rfl) (by omega) rfl (by omega) ?_
           intro ga ca wa hOa hBa hga hla
           refine hK _ _ ?_
           clear hK K
           have hp1 := own_beside (Ownv.alloc HP.out _) hga HAP.out
           have hap1 := apart_next (Ownv.alloc HP.out _) HAP.out hla
           have HOa := Lib.hid hOa
           have HBa := Lib.hid hBa
           have HP1 := Lib.hid hp1
           have HAP1 := Lib.hid hap1
           clear hOa hBa hga hla hp1 hap1)
        | (at_builtin
           refine list_of rfl fun K hK => wp_appi (w0 := w1) (xs := parP j 1 j) (us := [((j : Int) + 4 + (j : Int)), ((j : Int) + 1), (2 * ((j : Int) + 4) + (j : Int) + 1)]) (.tmp 79) (.tmp 90) 33 rfl el33 rfl rfl (bal HBa.out _) (Ownv.alloc HP1.out _) (heap_new' rfl) (by omega) rfl (by omega) ?_
           intro gb cb wb hOb hBb hgb hlb
           refine hK _ _ ?_
           clear hK K
           have hs1 := own_beside (Ownv.alloc HOa.out _) hgb HAP1.out.symm
           have HOb := Lib.hid hOb
           have HBb := Lib.hid hBb
           have HS1 := Lib.hid hs1
           clear hOb hBb hgb hlb hs1))
      go_ret3
      exact ⟨_, _, _, _, rfl, Own.of_eq (Ownv.mono HS1.out HB1.out.size) rfl (by rw [sysL_eq]; simp [atN]), Own.of_eq (Ownv.mono HOb.out HB1.out.size) rfl (by rw [parI_eq]; simp [atN]), HB1.out.trans (HBb.out.mono HB1.out.size)⟩
set_option maxRecDepth 100000 in
set_option maxHeartbeats 600000 in
theorem rlay2_any (k : Nat) (w : World) (hv : validK (k : Int) = true) : Calls Try.prog 18 #[.int .i64 k, .int .i64 2] w fun e w' => ∃ A c B d, e = .returned (.tuple #[.slice A (k + 3) c, .slice B (k + 3) d, .int .i64 0]) ∧ Own .i64 3 w' w.heap.size A (k + 3) c (sysL k 2) ∧ Own .i64 3 w' w.heap.size B (k + 3) d (parI k 2) ∧ Below w.heap.size w w' := by
  obtain ⟨n0, n1⟩ := valid_len hv
  have ho := fun W => Lib.hid (rorder_any (k : Int) W)
  have e1 : permE (k : Int) = 0 := by unfold permE; rw [if_pos hv]
  rw [e1, ordR_osL hv] at ho
  clear e1 hv
  go_enter Try.func18, Try.ntmps18
  go_wp2_with fail
  refine (ho _).out.mono ?_
  rintro e w1 ⟨D, l, d, rfl, hOD, hB1⟩
  obtain rfl : k = l := by
    have h9 := (Own.rd hOD).len
    rw [show osL k 2 = ordL k from rfl, ordL_len] at h9
    exact h9
  have HOD := Lib.hid hOD
  have HB1 := Lib.hid hB1
  clear hOD hB1 ho
  go_wp2_with fail
  go_loopw [12, 10, 11] (fun i s p wr => RLayInv w1 k 2 i s p wr) (fun i _ _ _ => k - (intOf i).toNat)
  case atStart => exact ⟨0, none, none, 0, 0, by omega, rfl, rfl, rfl, Own.nilv _ _ _ _, Own.nilv _ _ _ _, fun h => absurd rfl h, Below.refl _ _⟩
  case round =>
    obtain ⟨j, A, B, c, d', hj, rfl, rfl, rfl, hS, hP, hap, hB⟩ := hrel
    by_cases hlt : j < k
    · have HS := Lib.hid hS
      have HP := Lib.hid hP
      have HAP := Lib.hid hap
      have HB := Lib.hid hB
      have hR := Ownv.rd (Ownv.below HOD.out hB)
      have hix := fun W => Rdv.ix hR el33 hlt .i64 W
      have hcell : wr.cell? (adr D j) = some (.int .i64 (gi (osL k 2) j)) := Rd.cell hR hlt
      clear hR
      clear hS hP hap hB
      go_wp2_with (first
        | (at_builtin
           refine list_of rfl fun K hK => wp_appi (w0 := w1) (xs := sysP k 2 j) (us := [(gi (osL k 2) j)]) (.tmp 48) (.tmp 53) 33 rfl el33 rfl rfl (bal HB.out _) (Ownv.alloc HS.out _) (heap_new' rfl) (by omega) rfl (by omega) ?_
           intro ga ca wa hOa hBa hga hla
           refine hK _ _ ?_
           clear hK K
           have hp1 := own_beside (Ownv.alloc HP.out _) hga HAP.out
           have hap1 := apart_next (Ownv.alloc HP.out _) HAP.out hla
           have HOa := Lib.hid hOa
           have HBa := Lib.hid hBa
           have HP1 := Lib.hid hp1
           have HAP1 := Lib.hid hap1
           clear hOa hBa hga hla hp1 hap1)
        | (at_builtin
           refine list_of rfl fun K hK => wp_appi (w0 := w1) (xs := parP k 2 j) (us := [(2 * ((k : Int) + 4) + (j : Int))]) (.tmp 55) (.tmp 60) 33 rfl el33 rfl rfl (bal HBa.out _) (Ownv.alloc HP1.out _) (heap_new' rfl) (by omega) rfl (by omega) ?_
           intro gb cb wb hOb hBb hgb hlb
           refine hK _ _ ?_
           clear hK K
           have hs1 := own_beside (Ownv.alloc HOa.out _) hgb HAP1.out.symm
           have hap2 := apart_next (Ownv.alloc HOa.out _) HAP1.out.symm hlb
           have HOb := Lib.hid hOb
           have HBb := Lib.hid hBb
           have HS1 := Lib.hid hs1
           have HAP2 := Lib.hid hap2
           clear hOb hBb hgb hlb hs1 hap2))
      go_roundw
      case rel => exact ⟨j + 1, _, _, ca, cb, by omega, by go_num, rfl, rfl, Own.of_eq HS1.out rfl (by rw [sysP_succ]), Own.of_eq HOb.out rfl (by rw [parP_succ]; rfl), HAP2.out.symm, HBb.out⟩
      case measure => simp [intOf]; omega
    · obtain rfl : j = k := by omega
      have HS := Lib.hid hS
      have HP := Lib.hid hP
      have HAP := Lib.hid hap
      have HB := Lib.hid hB
      clear hS hP hap hB
      go_wp2_with (first
        | (at_builtin
           refine list_of rfl fun K hK => wp_appi (w0 := w1) (xs := sysP j 2 j) (us := [((j : Int) + 2), (2 * ((j : Int) + 4) + ((j : Int) + 2)), ((j : Int) + 4 + ((j : Int) + 2) + 1)]) (.tmp 67) (.tmp 77) 33 rfl el33 rfl rfl (bal HB.out _) (Ownv.alloc HS.out _) (heap_new' rfl) (by omega) rfl (by omega) ?_
           intro ga ca wa hOa hBa hga hla
           refine hK _ _ ?_
           clear hK K
           have hp1 := own_beside (Ownv.alloc HP.out _) hga HAP.out
           have hap1 := apart_next (Ownv.alloc HP.out _) HAP.out hla
           have HOa := Lib.hid hOa
           have HBa := Lib.hid hBa
           have HP1 := Lib.hid hp1
           have HAP1 := Lib.hid hap1
           clear hOa hBa hga hla hp1 hap1)
        | (at_builtin
           refine list_of rfl fun K hK => wp_appi (w0 := w1) (xs := parP j 2 j) (us := [((j : Int) + 4 + ((j : Int) + 2)), (((j : Int) + 2) + 1), (2 * ((j : Int) + 4) + ((j : Int) + 2) + 1)]) (.tmp 79) (.tmp 90) 33 rfl el33 rfl rfl (bal HBa.out _) (Ownv.alloc HP1.out _) (heap_new' rfl) (by omega) rfl (by omega) ?_
           intro gb cb wb hOb hBb hgb hlb
           refine hK _ _ ?_
           clear hK K
           have hs1 := own_beside (Ownv.alloc HOa.out _) hgb HAP1.out.symm
           have HOb := Lib.hid hOb
           have HBb := Lib.hid hBb
           have HS1 := Lib.hid hs1
           clear hOb hBb hgb hlb hs1))
      go_ret3
      exact ⟨_, _, _, _, rfl, Own.of_eq (Ownv.mono HS1.out HB1.out.size) rfl (by rw [sysL_eq]; simp [atN]), Own.of_eq (Ownv.mono HOb.out HB1.out.size) rfl (by rw [parI_eq]; simp [atN]), HB1.out.trans (HBb.out.mono HB1.out.size)⟩
end Go.Proofs.Ytkagdiejpcfggaa
