/-
  Rows that are the code blocks of padded bits: joined they give the bits; with one bit of one of several blocks changed they are refused. Plain.
-/
import Derived.Test.YtcbbkflnenkpgaaGreatVm
namespace Go.Proofs.YtcbbkflnenkpgaaGreat
open Go.RowKit CM
set_option linter.unusedVariables false
/-- the data of block i -/
def dI (b : Nat) (full : List Int) (i : Nat) : List Int := (full.drop (off b i)).take (sz b i - ck b)
structure SG (b : Nat) (full : List Int) (L : List Sv) : Prop where
  l : L.map (·.xs) = segs b full (bC b)
  n : ∀ s ∈ L, s.xs.length = s.n
  h1 : 1 ≤ b
  f : full.length = off b (bC b)
  y : Bit full
section
variable {b : Nat} {full : List Int} {L : List Sv}
theorem SG.len (h : SG b full L) : L.length = bC b := by
  have := congrArg List.length h.l
  simpa [segs] using this
theorem SG.dlen (h : SG b full L) {i : Nat} (hi : i < bC b) : (dI b full i).length = sz b i - ck b := by
  have h2 := off_le (b := b) (i := i + 1) (j := bC b) (by omega)
  have h3 := h.f
  simp only [off] at h2
  unfold dI
  rw [List.length_take, List.length_drop]; omega
theorem SG.get (h : SG b full L) {i : Nat} {s : Sv} (hs : L[i]? = some s) : i < bC b ∧ s.xs = segB b (dI b full i) ∧ s.n = sz b i := by
  obtain ⟨hi, he⟩ := List.getElem?_eq_some_iff.1 hs
  have hi' : i < bC b := by rw [← h.len]; exact hi
  have h2 : (L.map (·.xs))[i]? = some s.xs := by rw [List.getElem?_map, hs]; rfl
  rw [h.l, segs, List.getElem?_map, List.getElem?_range hi'] at h2
  have h3 : segB b (dI b full i) = s.xs := Option.some.inj h2
  refine ⟨hi', h3.symm, ?_⟩
  rw [← h.n s (List.mem_of_getElem? hs), ← h3, segB_len (i := i) h.h1 _ (h.dlen hi')]
theorem SG.bit (h : SG b full L) : ∀ s ∈ L, Bit s.xs := by
  intro s hs
  obtain ⟨i, hi, rfl⟩ := List.getElem_of_mem hs
  rw [(h.get (List.getElem?_eq_getElem hi)).2.1]
  exact segB_bit (bit_take _ (bit_drop _ h.y))
theorem segB_take {d : List Int} {m : Nat} (hm : d.length = m) : (segB b d).take m = d := by
  subst hm
  unfold segB
  split
  · exact List.take_length
  · exact List.take_left
theorem SG.jD (h : SG b full L) : ∀ k, k ≤ bC b → jD b L k = full.take (off b k)
  | 0, _ => by simp [YtcbbkflnenkpgaaGreat.jD, off]
  | k + 1, hk => by
    have hl := h.len
    have hg := List.getElem?_eq_getElem (l := L) (i := k) (by omega)
    obtain ⟨h2, h3, h4⟩ := h.get hg
    rw [jD_succ hg, SG.jD h k (by omega), h3, h4, segB_take (h.dlen h2)]
    simp only [off, dI]
    rw [List.take_add]
theorem SG.v (h : SG b full L) : jV L = true := jV_t fun q s _ hs => bit_valid (h.bit s (List.mem_of_getElem? hs))
theorem SG.s (h : SG b full L) : jS b L = true := jS_t fun q s _ hs => (h.get hs).2.2
theorem SG.c (h : SG b full L) (hb : ¬ b ≤ 6144) : jC L = true := jC_t fun q s _ hs => by
  rw [(h.get hs).2.1]
  unfold segB
  rw [if_neg hb]
  exact (back (by decide) (bit_take _ (bit_drop _ h.y))).1
theorem SG.first (h : SG b full L) (hz : full.take (fi b) = List.replicate (fi b) 0) : jF b L = true := by
  have hp := bC_pos (b := b)
  have hl := h.len
  have hg := List.getElem?_eq_getElem (l := L) (i := 0) (by omega)
  obtain ⟨h2, h3, h4⟩ := h.get hg
  have h5 := (sz_ge (i := 0) h.h1).1
  rw [if_pos rfl] at h5
  unfold jF
  rw [hg]
  show No1 _ = true
  have h6 : L[0].xs.take (fi b) = List.replicate (fi b) 0 := by
    have h7 : (L[0].xs.take (sz b 0 - ck b)).take (fi b) = L[0].xs.take (fi b) := by rw [List.take_take, Nat.min_eq_left (by omega)]
    rw [← h7, h3, segB_take (h.dlen h2), dI, List.take_take, Nat.min_eq_left (by omega)]
    simpa [off] using hz
  rw [h6]
  refine no1_t fun j hj => ?_
  have : gi (List.replicate (fi b) (0 : Int)) j = 0 := by
    unfold gi
    rw [List.getD_eq_getElem?_getD, List.getElem?_replicate]
    split <;> rfl
  rw [this]; decide
/-- blocks of a Split are joined to its bits -/
theorem SG.ok (h : SG b full L) (hz : full.take (fi b) = List.replicate (fi b) 0) : jErr b L = 0 ∧ jRes b L = full.drop (fi b) := by
  have h0 : jErr b L = 0 := jErr_0 h.v h.len h.s (h.first hz) h.c
  refine ⟨h0, ?_⟩
  unfold jRes
  rw [if_pos h0, h.len, h.jD _ (Nat.le_refl _), ← h.f, List.take_length]
/-- one bit of one of several blocks is changed: they are refused -/
theorem SG.turned (h : SG b full L) (hb : ¬ b ≤ 6144) {k q : Nat} {r : Sv} (hk : L[k]? = some r) (hq : q < r.n) {A : Option Addr} {c : Nat} :
    jErr b (L.set k ⟨A, r.n, c, r.xs.set q (1 - gi r.xs q)⟩) ≠ 0 ∧ jRes b (L.set k ⟨A, r.n, c, r.xs.set q (1 - gi r.xs q)⟩) = [] := by
  have hl := h.len
  obtain ⟨h2, h3, h4⟩ := h.get hk
  have hrl := h.n r (List.mem_of_getElem? hk)
  have hbd := bit_take (sz b k - ck b) (bit_drop (off b k) h.y)
  have hdl := h.dlen h2
  have h5 := (sz_ge (b := b) (i := k) h.h1).1
  have hck : ck b = 24 := by unfold ck; rw [if_neg hb]
  have hs2 : sLen 2 = 24 := rfl
  have hx : r.xs = dI b full k ++ crcSum 2 (dI b full k) := by rw [h3]; unfold segB; rw [if_neg hb]
  have hF := Flip.first (ys := r.xs) (i := q) (by omega)
  have hne : jErr b (L.set k ⟨A, r.n, c, r.xs.set q (1 - gi r.xs q)⟩) ≠ 0 := by
    have hc : chkErr 2 (r.xs.set q (1 - gi r.xs q)) = 11 := by
      rw [hx] at hF ⊢
      exact burst (by decide) hbd hF (by rw [show ((full.drop (off b k)).take (sz b k - ck b)).length = sz b k - ck b from hdl]; omega) (by decide)
    have hjc : jC (L.set k ⟨A, r.n, c, r.xs.set q (1 - gi r.xs q)⟩) = false := by
      refine jC_f (j := k) (s := ⟨A, r.n, c, r.xs.set q (1 - gi r.xs q)⟩) ?_ (by rw [hc]; decide)
      rw [List.getElem?_set_self (by omega)]
    unfold jErr
    split
    · decide
    · split
      · decide
      · split
        · decide
        · split
          · decide
          · rw [if_pos ⟨hb, hjc⟩]; decide
  exact ⟨hne, by unfold jRes; rw [if_neg hne]⟩
end
/-- the padded bits of a Split -/
theorem full_res {xs : List Int} : (List.replicate (fi xs.length) (0 : Int) ++ xs).take (fi xs.length) = List.replicate (fi xs.length) 0 ∧ (List.replicate (fi xs.length) (0 : Int) ++ xs).drop (fi xs.length) = xs := by
  constructor
  · exact List.take_left' (by simp)
  · exact List.drop_left' (by simp)
theorem sE_zero {xs : List Int} (h : sE xs = 0) : 1 ≤ xs.length ∧ xs.length ≤ 79560 ∧ ValidB xs = true := by
  unfold sE at h
  split at h
  · cases h
  · split at h
    · rename_i h1 h2; exact ⟨by omega, by omega, h2⟩
    · cases h
theorem SpAllS.sg {w w' : World} {xs : List Int} {A' : Option Addr} {n' c' : Nat} {L : List Sv} (h : SpAllS w xs w' A' n' c' L) (hE : sE xs = 0) (hy : Byt xs) : SG xs.length (List.replicate (fi xs.length) 0 ++ xs) L := by
  obtain ⟨h1, h2, hv⟩ := sE_zero hE
  refine ⟨by rw [h.l, sD, if_pos hE], fun s hs => Rd.len (Own.rd (h.b.r s hs).1), h1, ?_, bit_app (bit_zeros _) (bit_of (fun x hx => (hy x hx).1) hv)⟩
  rw [off_all h1, List.length_append, List.length_replicate]; omega
theorem SpAllS.none {w w' : World} {xs : List Int} {A' : Option Addr} {n' c' : Nat} {L : List Sv} (h : SpAllS w xs w' A' n' c' L) (hE : sE xs ≠ 0) : n' = 0 := by
  have := congrArg List.length h.l
  rw [sD, if_neg hE] at this
  simp at this
  rw [h.n, this]; rfl
end Go.Proofs.YtcbbkflnenkpgaaGreat
