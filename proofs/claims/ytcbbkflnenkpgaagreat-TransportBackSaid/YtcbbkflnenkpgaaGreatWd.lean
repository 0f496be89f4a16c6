/-
  Blocks cut out of code words: joined they give the bits; with one bit changed they are refused. Plain.
-/
import Derived.Test.YtcbbkflnenkpgaaGreatTd
import Derived.Test.YtcbbkflnenkpgaaGreatWb
namespace Go.Proofs.YtcbbkflnenkpgaaGreat
open Go.RowKit CM
set_option linter.unusedVariables false
theorem encW_take {d : List Int} (hb : Bit d) (hv : Tu.validK (d.length : Int) = true) : (Tu.encW d).take d.length = d ∧ (Tu.encW d).length = 3 * (d.length + 4) := by
  have h0 : ∀ x ∈ d, 0 ≤ x := fun x hx => by rcases hb x hx with rfl | rfl <;> decide
  have hvb : Tu.ValidB d = true := bit_valid hb
  have hl : (Tu.toB d).length = d.length := by simp [Tu.toB]
  have e : Tu.encW d = Tu.wordI (Tu.toB d) := by unfold Tu.encW; rw [if_pos hv, if_pos hvb]
  rw [e]
  refine ⟨?_, by rw [Tu.wordI_len, hl]⟩
  unfold Tu.wordI
  rw [← List.map_take]
  have e2 : (Tu.wordB (Tu.toB d) (Tu.mixB (Tu.toB d))).take d.length = Tu.toB d := by
    unfold Tu.wordB
    rw [List.append_assoc, List.append_assoc]
    exact List.take_left' hl
  rw [e2]
  exact Tu.toB_ib d h0 hvb
theorem set_take {α : Type} (xs : List α) (q : Nat) (v : α) (m : Nat) (hm : xs.length ≤ m) : (xs.set q v).take m = xs.set q v := List.take_of_length_le (by rw [List.length_set]; exact hm)
/-- one block, one bit of it changed -/
theorem SG.turn1 {b : Nat} {full : List Int} {L : List Sv} (h : SG b full L) (hb : b ≤ 6144) (hz : full.take (fi b) = List.replicate (fi b) 0) {q : Nat} {r : Sv} (hk : L[0]? = some r) (hq : q < r.n) {A : Option Addr} {c : Nat} :
    jErr b (L.set 0 ⟨A, r.n, c, r.xs.set q (1 - gi r.xs q)⟩) ≠ 0 ∨ (jErr b (L.set 0 ⟨A, r.n, c, r.xs.set q (1 - gi r.xs q)⟩) = 0 ∧ fi b ≤ q ∧ q < full.length ∧
      jRes b (L.set 0 ⟨A, r.n, c, r.xs.set q (1 - gi r.xs q)⟩) = (full.drop (fi b)).set (q - fi b) (1 - gi (full.drop (fi b)) (q - fi b))) := by
  have hl := h.len
  have hC : bC b = 1 := bC_one hb
  obtain ⟨h2, h3, h4⟩ := h.get hk
  have hck : ck b = 0 := by unfold ck; rw [if_pos hb]
  have hoff : off b 1 = sz b 0 := by simp [off, hck]
  have hfl : full.length = sz b 0 := by rw [h.f, hC, hoff]
  have hrx : r.xs = full := by
    rw [h3]; unfold segB; rw [if_pos hb]
    unfold dI
    rw [hck, show off b 0 = 0 from rfl, List.drop_zero, Nat.sub_zero, ← hfl, List.take_length]
  obtain ⟨r', hL⟩ : ∃ r', L = [r'] := List.length_eq_one_iff.1 (by rw [hl, hC])
  subst hL
  have hr' : r' = r := by simpa using hk
  subst hr'
  simp only [List.set_cons_zero]
  by_cases he : jErr b [⟨A, r'.n, c, r'.xs.set q (1 - gi r'.xs q)⟩] = 0
  · right
    have hqf : fi b ≤ q := by
      apply Classical.byContradiction
      intro hlt
      have hfz : gi full q = 0 := by
        have h8 : (full.take (fi b))[q]? = some 0 := by rw [hz, List.getElem?_replicate, if_pos (by omega)]
        rw [List.getElem?_take, if_pos (by omega)] at h8
        simp [gi, List.getD, h8]
      have hn1 : No1 ((full.set q (1 - gi full q)).take (fi b)) = false := by
        refine no1_f (j := q) (by rw [List.length_take, List.length_set]; omega) ?_
        have h9 : ((full.set q (1 - gi full q)).take (fi b))[q]? = some (1 - gi full q) := by
          rw [List.getElem?_take, if_pos (by omega), List.getElem?_set_self (by omega)]
        show List.getD _ q 0 = 1
        rw [List.getD_eq_getElem?_getD, h9, hfz]
        rfl
      have hjF : jF b [⟨A, r'.n, c, r'.xs.set q (1 - gi r'.xs q)⟩] = false := by
        unfold jF
        simp only [List.getElem?_cons_zero, hrx]
        exact hn1
      unfold jErr at he
      rw [hjF] at he
      split at he
      · cases he
      · split at he
        · cases he
        · split at he
          · cases he
          · rw [if_pos rfl] at he; cases he
    refine ⟨he, hqf, by omega, ?_⟩
    unfold jRes
    rw [if_pos he]
    unfold YtcbbkflnenkpgaaGreat.jD
    simp only [List.length_singleton, List.take_succ_cons, List.take_zero, List.flatMap_cons, List.flatMap_nil, List.append_nil, hck, Nat.sub_zero, hrx]
    rw [set_take _ _ _ _ (by omega), List.drop_set, if_neg (by omega)]
    congr 1
    unfold gi
    rw [List.getD_eq_getElem?_getD, List.getD_eq_getElem?_getD, List.getElem?_drop, show fi b + (q - fi b) = q by omega]
  · exact .inl he
/-- the blocks of n bits with their checksum -/
theorem tE_ok {xs : List Int} {L : List Sv} (hb : Bit xs) (h1 : 1 ≤ xs.length) (h2 : xs.length ≤ 79536) (hG : SG (xs.length + 24) (List.replicate (fi (xs.length + 24)) 0 ++ (xs ++ crcSum 1 xs)) L) : tE xs.length L = 0 ∧ tR xs.length L = xs := by
  have hcl : (crcSum 1 xs).length = 24 := by rw [crcSum_len]; rfl
  have hfr := full_res (xs := xs ++ crcSum 1 xs)
  rw [List.length_append, hcl] at hfr
  obtain ⟨o1, o2⟩ := hG.ok hfr.1
  rw [hfr.2] at o2
  have e1 : ((xs.length : Int) + 24).toNat = xs.length + 24 := by omega
  have j1 : jE ((xs.length : Int) + 24) L = 0 := by unfold jE; rw [if_neg (by omega), e1]; exact o1
  have j2 : jR ((xs.length : Int) + 24) L = xs ++ crcSum 1 xs := by unfold jR; rw [if_neg (by omega), e1]; exact o2
  obtain ⟨b1, b2⟩ := back (k := 1) (by decide) hb
  constructor
  · unfold tE; rw [if_neg (by omega), if_pos j1, j2]; exact b1
  · unfold tR; rw [if_neg (by omega), if_pos j1, j2]; exact b2
theorem tE_turn {xs : List Int} {L : List Sv} (hb : Bit xs) (h1 : 1 ≤ xs.length) (h2 : xs.length ≤ 79536) (hG : SG (xs.length + 24) (List.replicate (fi (xs.length + 24)) 0 ++ (xs ++ crcSum 1 xs)) L) {k q : Nat} {r : Sv} (hk : L[k]? = some r) (hq : q < r.n) {A : Option Addr} {c : Nat} :
    tE xs.length (L.set k ⟨A, r.n, c, r.xs.set q (1 - gi r.xs q)⟩) ≠ 0 ∧ tR xs.length (L.set k ⟨A, r.n, c, r.xs.set q (1 - gi r.xs q)⟩) = [] := by
  have hcl : (crcSum 1 xs).length = 24 := by rw [crcSum_len]; rfl
  have hfr := full_res (xs := xs ++ crcSum 1 xs)
  rw [List.length_append, hcl] at hfr
  have e1 : ((xs.length : Int) + 24).toNat = xs.length + 24 := by omega
  obtain ⟨M, hM⟩ : ∃ M, M = L.set k ⟨A, r.n, c, r.xs.set q (1 - gi r.xs q)⟩ := ⟨_, rfl⟩
  have jj1 : jE ((xs.length : Int) + 24) M = jErr (xs.length + 24) M := by unfold jE; rw [if_neg (by omega), e1]
  have jj2 : jR ((xs.length : Int) + 24) M = jRes (xs.length + 24) M := by unfold jR; rw [if_neg (by omega), e1]
  rw [← hM]
  by_cases hj : jErr (xs.length + 24) M = 0
  · have hc : chkErr 1 (jRes (xs.length + 24) M) ≠ 0 := by
      by_cases h6 : xs.length + 24 ≤ 6144
      · have hkz : k = 0 := by
          have h7 := (hG.get hk).1
          rw [bC_one h6] at h7; omega
        subst hkz
        rcases hG.turn1 h6 hfr.1 hk hq (A := A) (c := c) with h8 | ⟨-, h9, h10, h8⟩
        · rw [← hM] at h8; exact absurd hj h8
        · rw [← hM, hfr.2] at h8
          rw [h8]
          have hlen : (xs ++ crcSum 1 xs).length = xs.length + 24 := by rw [List.length_append, hcl]
          have h11 : q - fi (xs.length + 24) < (xs ++ crcSum 1 xs).length := by
            rw [List.length_append, List.length_replicate] at h10; omega
          have hF := Flip.first (ys := xs ++ crcSum 1 xs) (i := q - fi (xs.length + 24)) h11
          rw [burst (k := 1) (by decide) hb hF (by rw [hlen] at h11; exact h11) (by decide)]
          decide
      · have h8 := (hG.turned h6 hk hq (A := A) (c := c)).1
        rw [← hM] at h8
        exact absurd hj h8
    constructor
    · unfold tE; rw [if_neg (by omega), jj1, if_pos hj, jj2]; exact hc
    · unfold tR; rw [if_neg (by omega), jj1, if_pos hj, jj2]
      unfold chkRes; rw [if_neg hc]
  · constructor
    · unfold tE; rw [if_neg (by omega), jj1, if_neg hj]; exact hj
    · unfold tR; rw [if_neg (by omega), jj1, if_neg hj]
end Go.Proofs.YtcbbkflnenkpgaaGreat
