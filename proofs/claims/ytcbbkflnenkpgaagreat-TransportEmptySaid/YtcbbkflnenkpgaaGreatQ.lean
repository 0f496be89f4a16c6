/-
  Plain facts about the checksum, no program in sight: a burst no longer than the checksum is detected; a mask applied twice restores the bits; a masked checksum fails unless the identity is 0.
-/
import Derived.Test.YtcbbkflnenkpgaaGreatP
namespace Go.Proofs.YtcbbkflnenkpgaaGreat
open Go.RowKit CM
set_option linter.unusedVariables false
theorem list_ofg {P : Program} {w : World} {ops : Array Oper} {rest : List Oper} {o : Oper} {a : Act} {Q : Exit → Act → World → Prop} (hw : Region.wanted o (yielded ops a.tmps) = true) (h : ∀ K : Act → World → Prop, (∀ a w, wpList P ops Q rest a w → K a w) → o.wp P a w K Q) : wpList P ops Q (o :: rest) a w :=
  wpList_step fun K hK => by rw [if_pos hw]; exact h K hK
theorem at_ix (a : Int) (m L : Nat) (hm : 0 < m + L) (h : m + L ≤ 100000) : ∃ i : Nat, i < m + L ∧ wrap64 ((IntKind.u64.wrap a).tmod ((m : Int) + (L : Int))) = (i : Int) := by
  have h0 := wrap_u64_nonneg a
  rw [Int.tmod_eq_emod_of_nonneg h0]
  have h1 := Int.emod_nonneg (IntKind.u64.wrap a) (show (m : Int) + (L : Int) ≠ 0 by omega)
  have h2 := Int.emod_lt_of_pos (IntKind.u64.wrap a) (show 0 < (m : Int) + (L : Int) by omega)
  generalize IntKind.u64.wrap a % ((m : Int) + (L : Int)) = r at *
  exact ⟨r.toNat, by omega, by unfold wrap64; omega⟩
theorem bit_gi {xs : List Int} (h : Bit xs) (t : Nat) : gi xs t = 0 ∨ gi xs t = 1 := by
  by_cases ht : t < xs.length
  · exact h _ (gi_mem xs t ht)
  · exact .inl (by unfold gi; rw [List.getD_eq_getElem?_getD, List.getElem?_eq_none (by omega)]; rfl)
theorem bit_of_gi {xs : List Int} (h : ∀ t, t < xs.length → gi xs t = 0 ∨ gi xs t = 1) : Bit xs := by
  intro x hx
  obtain ⟨t, ht, rfl⟩ := List.getElem_of_mem hx
  rw [← gi_eq xs t ht]; exact h t ht
theorem bl_getD (xs : List Int) (t : Nat) : (bl xs).getD t false = decide (gi xs t = 1) := by
  unfold bl gi
  rw [List.getD_eq_getElem?_getD, List.getElem?_map, List.getD_eq_getElem?_getD]
  cases xs[t]? <;> simp
theorem check_zero {k : Int} (h : sLen k ≠ 0) {ys : List Int} (hb : Bit ys) (hl : sLen k ≤ ys.length) (he : crcSum k (ys.take (ys.length - sLen k)) = ys.drop (ys.length - sLen k)) : run (sLen k) (nPoly k) 0 (bl ys) = 0 := by
  obtain ⟨h1, h2, h3, h4⟩ := nPoly_ok h
  have b1 := bit_take (ys.length - sLen k) hb
  rw [← List.take_append_drop (ys.length - sLen k) ys, bl_app]
  refine (run_zero_iff h1 h3 h4 _ _ (by rw [bit_len, List.length_drop]; omega)).2 ?_
  rw [← he, ← ib_bl b1, crcSum_bits h, bl_ib, bl_ib]
theorem zero_check {k : Int} (h : sLen k ≠ 0) {ys : List Int} (hb : Bit ys) (hl : sLen k ≤ ys.length) (hz : run (sLen k) (nPoly k) 0 (bl ys) = 0) : crcSum k (ys.take (ys.length - sLen k)) = ys.drop (ys.length - sLen k) := by
  obtain ⟨h1, h2, h3, h4⟩ := nPoly_ok h
  have b1 := bit_take (ys.length - sLen k) hb
  have b2 : Bit (ys.drop (ys.length - sLen k)) := fun x hx => hb x (List.mem_of_mem_drop hx)
  rw [← List.take_append_drop (ys.length - sLen k) ys, bl_app] at hz
  have := (run_zero_iff h1 h3 h4 _ _ (by rw [bit_len, List.length_drop]; omega)).1 hz
  rw [← ib_bl b1, crcSum_bits h, this, ib_bl b2]
theorem diff_run {k : Int} (h : sLen k ≠ 0) {xs ys : List Int} (hl : xs.length = ys.length) (hx : run (sLen k) (nPoly k) 0 (bl xs) = 0) (hy : run (sLen k) (nPoly k) 0 (bl ys) = 0) : run (sLen k) (nPoly k) 0 (List.zipWith Bool.xor (bl xs) (bl ys)) = 0 := by
  have := run_xor (L := sLen k) (p := nPoly k) (bl xs) (bl ys) 0 0 (by rw [bit_len, bit_len, hl])
  rw [Nat.xor_zero] at this
  rw [this, hx, hy]; rfl
theorem zip_getD (us vs : List Bool) (t : Nat) (h : us.length = vs.length) : (List.zipWith Bool.xor us vs).getD t false = (us.getD t false ^^ vs.getD t false) := by
  rw [List.getD_eq_getElem?_getD, List.getD_eq_getElem?_getD, List.getD_eq_getElem?_getD, List.getElem?_zipWith]
  by_cases ht : t < us.length
  · rw [List.getElem?_eq_getElem ht, List.getElem?_eq_getElem (by omega : t < vs.length)]; rfl
  · rw [List.getElem?_eq_none (by omega), List.getElem?_eq_none (by omega)]; rfl
theorem repl_of {e : List Bool} (h : ∀ t, t < e.length → e.getD t false = false) : e = List.replicate e.length false := by
  refine List.ext_getElem (by simp) fun t h1 h2 => ?_
  have := h t h1
  rw [List.getD_eq_getElem?_getD, List.getElem?_eq_getElem h1] at this
  simpa using this
/-- A nonzero difference that lies within L consecutive places does not run to 0. -/
theorem run_window {L p : Nat} (hL : 1 ≤ L) (hp : p < 2 ^ L) (hodd : p.testBit 0 = true) (e : List Bool) (i : Nat) (hi : i < e.length) (h1 : e.getD i false = true) (h0 : ∀ t, t < i ∨ i + L ≤ t → e.getD t false = false) : run L p 0 e ≠ 0 := by
  intro h
  have hz := run_zeros hL hp hodd
  have e1 : e.take i = List.replicate i false := by
    have := repl_of (e := e.take i) (fun t ht => by
      rw [List.length_take] at ht
      rw [List.getD_eq_getElem?_getD, List.getElem?_take, if_pos (by omega), ← List.getD_eq_getElem?_getD]; exact h0 t (.inl (by omega)))
    rwa [List.length_take, Nat.min_eq_left (by omega)] at this
  have e3 := repl_of (e := (e.drop i).drop L) (fun t ht => by
      rw [List.getD_eq_getElem?_getD, List.getElem?_drop, List.getElem?_drop, ← List.getD_eq_getElem?_getD]; exact h0 _ (.inr (by omega)))
  have e2 : e = List.replicate i false ++ ((e.drop i).take L ++ List.replicate ((e.drop i).drop L).length false) := by
    rw [← e3, List.take_append_drop, ← e1, List.take_append_drop]
  rw [e2, run_append, run_zero_zeros, run_append] at h
  refine run_burst hL hp hodd ((e.drop i).take L) (by rw [List.length_take]; omega) ?_ (hz _ _ (run_lt hp _ _ (Nat.two_pow_pos L)) h)
  rw [List.mem_iff_getElem]
  refine ⟨0, by rw [List.length_take, List.length_drop]; omega, ?_⟩
  rw [List.getElem_take, List.getElem_drop]
  rw [List.getD_eq_getElem?_getD, List.getElem?_eq_getElem hi] at h1
  simpa using h1
theorem attach_run {k : Int} (h : sLen k ≠ 0) {xs : List Int} (hx : Bit xs) : run (sLen k) (nPoly k) 0 (bl (xs ++ crcSum k xs)) = 0 := by
  obtain ⟨h1, h2, h3, h4⟩ := nPoly_ok h
  rw [bl_app, run_zero_iff h1 h3 h4 _ _ (by rw [bit_len, crcSum_len])]
  rw [← ib_bl hx, crcSum_bits h, bl_ib, bl_ib]
def Flip (ys : List Int) (i n : Nat) (cur : List Int) : Prop :=
  cur.length = ys.length ∧ (∀ t, t < cur.length → gi cur t = gi ys t ∨ (i ≤ t ∧ t < i + n ∧ gi cur t = 1 - gi ys t)) ∧ gi cur i = 1 - gi ys i
theorem Flip.bit {ys : List Int} {i n : Nat} {cur : List Int} (h : Flip ys i n cur) (hy : Bit ys) : Bit cur := by
  refine bit_of_gi fun t ht => ?_
  have := bit_gi hy t
  rcases h.2.1 t ht with e | ⟨_, _, e⟩ <;> rw [e] <;> omega
theorem Flip.first {ys : List Int} {i : Nat} (hi : i < ys.length) : Flip ys i 1 (ys.set i (1 - gi ys i)) := by
  refine ⟨by simp, fun t ht => ?_, by rw [gi_set _ _ _ _ hi, if_pos rfl]⟩
  rw [gi_set _ _ _ _ hi]
  split
  · next h => subst h; exact .inr ⟨by omega, by omega, rfl⟩
  · exact .inl rfl
theorem Flip.next {ys : List Int} {i n : Nat} {cur : List Int} (h : Flip ys i n cur) (hn : 1 ≤ n) (hi : i + n < ys.length) : Flip ys i (n + 1) (cur.set (i + n) (1 - gi cur (i + n))) := by
  have hl := h.1
  refine ⟨by simp [hl], fun t ht => ?_, ?_⟩
  · rw [List.length_set] at ht
    rw [gi_set _ _ _ _ (by omega)]
    split
    · next he =>
      subst he
      rcases h.2.1 (i + n) ht with e | ⟨_, h2, _⟩
      · exact .inr ⟨by omega, by omega, by rw [e]⟩
      · omega
    · rcases h.2.1 t ht with e | ⟨h1, h2, e⟩
      · exact .inl e
      · exact .inr ⟨h1, by omega, e⟩
  · rw [gi_set _ _ _ _ (by omega), if_neg (by omega)]; exact h.2.2
theorem Flip.same {ys : List Int} {i n : Nat} {cur : List Int} (h : Flip ys i n cur) : Flip ys i (n + 1) cur := by
  refine ⟨h.1, fun t ht => ?_, h.2.2⟩
  rcases h.2.1 t ht with e | ⟨h1, h2, e⟩
  · exact .inl e
  · exact .inr ⟨h1, by omega, e⟩
def FlipInv (w : World) (ys : List Int) (i L : Nat) (A : Option Addr) (n c : Nat) (v : Value) (wr : World) : Prop :=
  ∃ q : Nat, 1 ≤ q ∧ q ≤ L ∧ v = .int .i64 q ∧ ∃ cur, Flip ys i q cur ∧ Own .u8 5 wr w.heap.size A n c cur ∧ Below w.heap.size w wr
theorem burst {k : Int} (h : sLen k ≠ 0) {xs cur : List Int} (hx : Bit xs) {i n : Nat} (hf : Flip (xs ++ crcSum k xs) i n cur) (hi : i < xs.length + sLen k) (hn : n ≤ sLen k) : chkErr k cur = 11 := by
  obtain ⟨h1, h2, h3, h4⟩ := nPoly_ok h
  have by' := bit_app hx (bit_sum h hx)
  have hr := attach_run h hx
  have hly : (xs ++ crcSum k xs).length = xs.length + sLen k := by rw [List.length_append, crcSum_len]
  have bc := hf.bit by'
  generalize xs ++ crcSum k xs = ys at *
  have hl := hf.1
  unfold chkErr
  rw [if_neg h, if_pos (bit_valid bc), if_neg (by omega)]
  refine if_neg fun he => ?_
  have hc := check_zero h bc (by omega) he
  have hd := diff_run h hl hc hr
  have hbl : (bl cur).length = (bl ys).length := by rw [bit_len, bit_len, hl]
  refine run_window h1 h3 h4 _ i (by rw [List.length_zipWith, bit_len, bit_len]; omega) ?_ (fun t ht => ?_) hd
  · rw [zip_getD _ _ _ hbl, bl_getD, bl_getD, hf.2.2]
    rcases bit_gi by' i with e | e <;> rw [e] <;> decide
  · rw [zip_getD _ _ _ hbl, bl_getD, bl_getD]
    by_cases htl : t < cur.length
    · rcases hf.2.1 t htl with e | ⟨_, _, _⟩
      · rw [e]; simp
      · omega
    · have e1 : gi cur t = 0 := by unfold gi; rw [List.getD_eq_getElem?_getD, List.getElem?_eq_none (by omega)]; rfl
      have e2 : gi ys t = 0 := by unfold gi; rw [List.getD_eq_getElem?_getD, List.getElem?_eq_none (by omega)]; rfl
      rw [e1, e2]; decide
/-- the masked bits, one by one -/
theorem mask_gi (xs : List Int) (id : Int) (hl : 16 ≤ xs.length) : ∀ j, j ≤ 16 → ∀ t, gi (maskL xs id j) t = if xs.length - 16 ≤ t ∧ t < xs.length - 16 + j then xor8 (gi xs t) (gi (splitL id 16) (t - (xs.length - 16))) else gi xs t := by
  intro j
  induction j with
  | zero => intro _ t; rw [if_neg (by omega)]; rfl
  | succ j ih =>
    intro hj t
    have hlen := maskL_len xs id j
    simp only [maskL]
    rw [gi_set _ _ _ _ (by omega), ih (by omega), ih (by omega)]
    by_cases ht : xs.length - 16 + j = t
    · subst ht
      rw [if_pos rfl, if_neg (by omega), if_pos (by omega), show xs.length - 16 + j - (xs.length - 16) = j by omega]
    · rw [if_neg ht]
      by_cases hw : xs.length - 16 ≤ t ∧ t < xs.length - 16 + j
      · rw [if_pos hw, if_pos (by omega)]
      · rw [if_neg hw, if_neg (by omega)]
theorem split16 {d : Nat} (hd : d < 65536) : splitL (d : Int) 16 = (bitsOf 16 d).map ib := splitL_nat (by omega)
theorem mask_all {d : Nat} (hd : d < 65536) (xs : List Int) (hl : 16 ≤ xs.length) (t : Nat) : gi (maskL xs d 16) t = if xs.length - 16 ≤ t ∧ t < xs.length then xor8 (gi xs t) (ib (d.testBit (xs.length - 1 - t))) else gi xs t := by
  rw [mask_gi xs d hl 16 (Nat.le_refl _), split16 hd, gi_map_ib, bitsOf_getD]
  by_cases hw : xs.length - 16 ≤ t ∧ t < xs.length
  · rw [if_pos (by omega), if_pos hw, show 16 - 1 - (t - (xs.length - 16)) = xs.length - 1 - t by omega]
    have : decide (t - (xs.length - 16) < 16) = true := by simp; omega
    rw [this, Bool.true_and]
  · rw [if_neg (by omega), if_neg hw]
theorem bit_mask {d : Nat} (hd : d < 65536) {xs : List Int} (hx : Bit xs) (hl : 16 ≤ xs.length) : Bit (maskL xs d 16) := by
  refine bit_of_gi fun t _ => ?_
  rw [mask_all hd xs hl]
  split
  · rcases bit_gi hx t with e | e <;> rw [e] <;> cases d.testBit (xs.length - 1 - t) <;> decide
  · exact bit_gi hx t
theorem mask_mask {d : Nat} (hd : d < 65536) {xs : List Int} (hx : Bit xs) (hl : 16 ≤ xs.length) : maskL (maskL xs d 16) d 16 = xs := by
  refine ext_gi (by rw [maskL_len, maskL_len]) fun t ht => ?_
  rw [mask_all hd _ (by rw [maskL_len]; exact hl), maskL_len, mask_all hd xs hl]
  by_cases hw : xs.length - 16 ≤ t ∧ t < xs.length
  · rw [if_pos hw, if_pos hw]
    rcases bit_gi hx t with e | e <;> rw [e] <;> cases d.testBit (xs.length - 1 - t) <;> decide
  · rw [if_neg hw, if_neg hw]
theorem mask_zero {xs : List Int} (hx : Bit xs) (hl : 16 ≤ xs.length) : maskL xs 0 16 = xs := by
  refine ext_gi (by rw [maskL_len]) fun t ht => ?_
  have := mask_all (d := 0) (by omega) xs hl t
  rw [show ((0 : Nat) : Int) = 0 from rfl] at this
  rw [this]
  split
  · rw [Nat.zero_testBit]; rcases bit_gi hx t with e | e <;> rw [e] <;> decide
  · rfl
theorem mask_check {d : Nat} (hd : d < 65536) {xs : List Int} (hx : Bit xs) : chkErr 3 (maskL (xs ++ crcSum 3 xs) d 16) = if d = 0 then 0 else 11 := by
  have h : sLen 3 ≠ 0 := by decide
  have h16 : sLen 3 = 16 := by decide
  obtain ⟨h1, h2, h3, h4⟩ := nPoly_ok h
  have by' := bit_app hx (bit_sum h hx)
  have hr := attach_run h hx
  have hb0 := (back h hx).1
  have hly : (xs ++ crcSum 3 xs).length = xs.length + 16 := by rw [List.length_append, crcSum_len, h16]
  generalize xs ++ crcSum 3 xs = ys at *
  by_cases h0 : d = 0
  · subst h0
    rw [if_pos rfl, show ((0 : Nat) : Int) = 0 from rfl, mask_zero by' (by omega), hb0]
  · rw [if_neg h0]
    have bm := bit_mask hd by' (by omega)
    have hml := maskL_len ys d 16
    unfold chkErr
    rw [if_neg h, if_pos (bit_valid bm), if_neg (by omega)]
    refine if_neg fun he => ?_
    have hc := check_zero h bm (by omega) he
    have hd' := diff_run h hml hc hr
    have hbl : (bl (maskL ys d 16)).length = (bl ys).length := by rw [bit_len, bit_len, hml]
    have key : ∀ t, (List.zipWith Bool.xor (bl (maskL ys d 16)) (bl ys)).getD t false = (decide (ys.length - 16 ≤ t ∧ t < ys.length) && d.testBit (ys.length - 1 - t)) := by
      intro t
      rw [zip_getD _ _ _ hbl, bl_getD, bl_getD, mask_all hd ys (by omega)]
      by_cases hw : ys.length - 16 ≤ t ∧ t < ys.length
      · rw [if_pos hw]
        simp only [hw, and_self, decide_true, Bool.true_and]
        rcases bit_gi by' t with e | e <;> rw [e] <;> cases d.testBit (ys.length - 1 - t) <;> decide
      · rw [if_neg hw, decide_eq_false hw, Bool.false_and]; simp
    obtain ⟨j, hj⟩ := Nat.exists_testBit_of_ne_zero h0
    have hj16 : j < 16 := by
      by_cases hj' : j < 16
      · exact hj'
      · rw [Nat.testBit_lt_two_pow (Nat.lt_of_lt_of_le hd (Nat.pow_le_pow_right (n := 2) (by decide) (by omega : 16 ≤ j)))] at hj; cases hj
    -- the first place of a difference
    have hz : List.zipWith Bool.xor (bl (maskL ys d 16)) (bl ys) = List.replicate (ys.length - 16) false ++ (List.zipWith Bool.xor (bl (maskL ys d 16)) (bl ys)).drop (ys.length - 16) := by
      have e1 := repl_of (e := (List.zipWith Bool.xor (bl (maskL ys d 16)) (bl ys)).take (ys.length - 16)) (fun t ht => by
        rw [List.length_take] at ht
        rw [List.getD_eq_getElem?_getD, List.getElem?_take, if_pos (by omega), ← List.getD_eq_getElem?_getD, key]
        have : ¬ (ys.length - 16 ≤ t ∧ t < ys.length) := by omega
        rw [decide_eq_false this, Bool.false_and])
      rw [List.length_take, List.length_zipWith, bit_len, bit_len, hml, Nat.min_self, Nat.min_eq_left (by omega)] at e1
      conv => lhs; rw [← List.take_append_drop (ys.length - 16) (List.zipWith Bool.xor (bl (maskL ys d 16)) (bl ys)), e1]
    rw [hz, run_append, run_zero_zeros] at hd'
    refine run_burst h1 h3 h4 _ (by rw [List.length_drop, List.length_zipWith, bit_len, bit_len]; omega) ?_ hd'
    have hk := key (ys.length - 1 - j)
    have hw : ys.length - 16 ≤ ys.length - 1 - j ∧ ys.length - 1 - j < ys.length := by omega
    rw [show ys.length - 1 - (ys.length - 1 - j) = j by omega, hj] at hk
    simp only [hw, and_self, decide_true, Bool.true_and] at hk
    rw [List.mem_iff_getElem?]
    refine ⟨15 - j, ?_⟩
    rw [List.getElem?_drop, show ys.length - 16 + (15 - j) = ys.length - 1 - j by omega]
    rw [List.getD_eq_getElem?_getD] at hk
    cases hq : (List.zipWith Bool.xor (bl (maskL ys d 16)) (bl ys))[ys.length - 1 - j]? with
    | none => rw [hq] at hk; cases hk
    | some v => rw [hq] at hk; exact congrArg some hk
end Go.Proofs.YtcbbkflnenkpgaaGreat
namespace Go.Proofs.YtcbbkflnenkpgaaGreat
open Go.RowKit CM
/-- The last j of n places are masked, from the last one. -/
def MaskTo (xs : List Int) (d j : Nat) (cur : List Int) : Prop :=
  cur.length = xs.length ∧ ∀ t, gi cur t = if xs.length - j ≤ t ∧ t < xs.length then xor8 (gi xs t) (ib (d.testBit (xs.length - 1 - t))) else gi xs t
theorem MaskTo.first (xs : List Int) (d : Nat) : MaskTo xs d 0 xs := ⟨rfl, fun t => by rw [if_neg (by omega)]⟩
theorem MaskTo.next {xs : List Int} {d j : Nat} {cur : List Int} (h : MaskTo xs d j cur) (hj : j < xs.length) : MaskTo xs d (j + 1) (cur.set (xs.length - 1 - j) (xor8 (gi cur (xs.length - 1 - j)) (ib (d.testBit j)))) := by
  have hl := h.1
  refine ⟨by simp [hl], fun t => ?_⟩
  rw [gi_set _ _ _ _ (by omega)]
  by_cases ht : xs.length - 1 - j = t
  · subst ht
    rw [if_pos rfl, if_pos (by omega), h.2, if_neg (by omega), show xs.length - 1 - (xs.length - 1 - j) = j by omega]
  · rw [if_neg ht, h.2]
    by_cases hw : xs.length - j ≤ t ∧ t < xs.length
    · rw [if_pos hw, if_pos (by omega)]
    · rw [if_neg hw, if_neg (by omega)]
theorem MaskTo.all {xs : List Int} {d : Nat} {cur : List Int} (h : MaskTo xs d 16 cur) (hd : d < 65536) (hl : 16 ≤ xs.length) : cur = maskL xs d 16 := by
  refine ext_gi (by rw [h.1, maskL_len]) fun t _ => ?_
  rw [h.2, mask_all hd xs hl]
def MaskInvL (w : World) (xs : List Int) (d : Nat) (A : Option Addr) (n c : Nat) (v : Value) (wr : World) : Prop :=
  ∃ j : Nat, j ≤ 16 ∧ v = .int .i64 j ∧ ∃ cur, MaskTo xs d j cur ∧ Own .u8 5 wr w.heap.size A n c cur ∧ Below w.heap.size w wr
end Go.Proofs.YtcbbkflnenkpgaaGreat
namespace Go.Proofs.YtcbbkflnenkpgaaGreat
open Go.RowKit CM
theorem mask_val (d j : Nat) (hd : d < 65536) : bits .and .u16 ((d : Int) / 2 ^ j) 1 % 256 = ib (d.testBit j) := by
  have e : (d : Int) / 2 ^ j = ((d / 2 ^ j : Nat) : Int) := by rw [Int.natCast_ediv]; simp
  have h := u16_and_nat (d / 2 ^ j) 1 (Nat.lt_of_le_of_lt (Nat.div_le_self _ _) hd) (by decide)
  rw [show ((1 : Nat) : Int) = 1 from rfl] at h
  rw [e, h, Nat.and_one_is_mod, ← div_pow_bit d j, Nat.testBit_zero]
  rcases Nat.mod_two_eq_zero_or_one (d / 2 ^ j) with h | h <;> rw [h] <;> rfl
theorem mask_val0 (d j : Nat) (h : (d : Int) = 0) : bits .and .u16 0 1 % 256 = ib (d.testBit j) := by
  obtain rfl : d = 0 := by omega
  rw [Nat.zero_testBit]; decide +kernel
end Go.Proofs.YtcbbkflnenkpgaaGreat
