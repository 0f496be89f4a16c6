/-
  The rows of a Split are short and few; rows changed. Plain.
-/
import Derived.Test.YtcbbkflnenkpgaaTb
namespace Go.Proofs.Ytcbbkflnenkpgaa
open Go.RowKit CM
set_option linter.unusedVariables false
theorem segs_le {b k : Nat} {full : List Int} (h1 : 1 ≤ b) : ∀ d ∈ segs b full k, d.length ≤ 6168 := by
  intro d hd
  unfold segs at hd
  obtain ⟨i, _, rfl⟩ := List.mem_map.1 hd
  have h2 := (sz_ge (i := i) h1).2
  unfold segB
  split
  · rw [List.length_take]; omega
  · rw [List.length_append, crcSum_len, List.length_take, show sLen 2 = 24 from rfl]; omega
theorem sD_le {xs : List Int} : (∀ d ∈ sD xs, d.length ≤ 6168) ∧ (sD xs).length ≤ 13 := by
  unfold sD
  split
  · rename_i h
    have h1 : 1 ≤ xs.length ∧ xs.length ≤ 79560 := by
      unfold sE at h
      split at h
      · cases h
      · omega
    exact ⟨segs_le h1.1, by unfold segs; rw [List.length_map, List.length_range]; exact bC_le h1.2⟩
  · exact ⟨by simp, by simp⟩
theorem SpAllS.le {w w' : World} {xs : List Int} {A' : Option Addr} {n' c' : Nat} {L : List Sv} (h : SpAllS w xs w' A' n' c' L) : ∀ s ∈ L, s.n ≤ 6168 := by
  intro s hs
  have h1 := Rd.len (Own.rd (h.b.r s hs).1)
  have h2 := sD_le.1 s.xs (by rw [← h.l]; exact List.mem_map.2 ⟨s, hs, rfl⟩)
  omega
theorem SpAllS.few {w w' : World} {xs : List Int} {A' : Option Addr} {n' c' : Nat} {L : List Sv} (h : SpAllS w xs w' A' n' c' L) : n' ≤ 13 := by
  have h1 := congrArg List.length h.l
  rw [List.length_map] at h1
  have h2 := sD_le (xs := xs).2
  rw [h.n]; omega
theorem own_of_ne {A B : Option Addr} {n c : Nat} (hA : A ≠ none) (h : some (blk B) ≠ (Value.slice A n c).ownBlock) : some (blk B) ≠ some (blk A) := by
  obtain ⟨a, ha⟩ := Option.ne_none_iff_exists'.1 hA
  rw [ha] at h ⊢
  simpa [Value.ownBlock, blk] using h
section
variable {w : World} {base c : Nat} {A : Option Addr} {L : List Sv}
theorem BL.none_ne (h : BL w base A c L) {k : Nat} (hk : k < L.length) : A ≠ none := by
  rintro rfl
  have := Rdv.nil h.o.rd rfl
  have := Rdv.le h.o.rd
  omega
/-- one value of one row is replaced -/
theorem BL.putv (h : BL w base A c L) {k q : Nat} {r : Sv} (hk : L[k]? = some r) (hq : q < r.n) (u : Int) :
    RL (w.setCell (adr r.A q) (.int .u8 u)) A L.length c (L.set k ⟨r.A, r.n, r.c, r.xs.set q u⟩) ∧ w.grownBy (w.setCell (adr r.A q) (.int .u8 u)) (some (blk r.A)) := by
  have hr := h.r r (List.mem_of_getElem? hk)
  have h2 := Own.set_ hr.1 hq u
  obtain ⟨hkl, hke⟩ := List.getElem?_eq_some_iff.1 hk
  have hmap : (L.set k ⟨r.A, r.n, r.c, r.xs.set q u⟩).map Sv.v = L.map Sv.v := by
    apply List.ext_getElem?
    intro j
    rw [List.getElem?_map, List.getElem?_map, List.getElem?_set]
    split
    · rename_i he; subst he; rw [hk]; rfl
    · rfl
  refine ⟨⟨by rw [hmap]; exact (h.o.grown h2.2 (fun hA => own_of_ne hr.2 (rows_ne h.o hr.1 (by decide) hA))).rd, fun s hs => ?_⟩, h2.2⟩
  obtain ⟨j, hj, he⟩ := List.getElem_of_mem hs
  rw [List.getElem_set] at he
  have hj' : j < L.length := by simpa using hj
  split at he
  · subst he; exact Own.rd h2.1
  · rename_i hne
    subst he
    refine Own.rd (Ownv.grown (h.r _ (List.getElem_mem hj')).1 h2.2 (fun _ he => ?_))
    have he := Option.some.inj he
    have hp := List.pairwise_iff_getElem.1 h.p
    rcases Nat.lt_or_gt_of_ne hne with h3 | h3
    · exact hp k j hkl hj' h3 (by rw [hke]; exact he.symm)
    · exact hp j k hj' hkl h3 (by rw [hke]; exact he)
/-- one row is replaced -/
theorem BL.putr (h : BL w base A c L) {k base' : Nat} {r : Sv} (hk : k < L.length) (hr : Own .u8 5 w base' r.A r.n r.c r.xs) :
    RL (w.setCell (adr A k) (.slice r.A r.n r.c)) A L.length c (L.set k r) ∧ w.grownBy (w.setCell (adr A k) (.slice r.A r.n r.c)) (some (blk A)) := by
  have h2 := Ownv.set_ h.o hk (Sv.v r)
  have hA := h.none_ne hk
  refine ⟨⟨by rw [List.map_set]; exact h2.1.rd, fun s hs => ?_⟩, h2.2⟩
  rcases List.mem_or_eq_of_mem_set hs with hs | rfl
  · exact Own.rd (Ownv.grown (h.r s hs).1 h2.2 (fun hB => own_of_ne hA (rows_ne (h.r s hs).1 h.o (by decide) hB)))
  · exact Own.rd (Ownv.grown hr h2.2 (fun hB => own_of_ne hA (rows_ne hr h.o (by decide) hB)))
end
end Go.Proofs.Ytcbbkflnenkpgaa
