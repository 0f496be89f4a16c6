/-
  Totals and the greatest metric are the greatest metrics of input bits, in plain Lean. Condition: a valid observation.
-/
import Derived.Test.YtmdjclfmhndjnaaDm
namespace Go.Proofs.Ytmdjclfmhndjnaa
open Go.RowKit
set_option linter.unusedVariables false
theorem fwd_att {o : Ob} {i : Nat} {m : List Int} {t : Nat} (ht : t < 8) (h : UU < gi (o.fwd i m) t) : ∃ b ∈ brT, b.tt = t ∧ o.allow i b = true ∧ UU < gi m b.fr ∧ gi m b.fr + o.term i b = gi (o.fwd i m) t := by
  refine Classical.byContradiction fun hn => ?_
  have h1 := ((fwd_le o i m t ht _).1 (Int.le_refl _)).2
  have h2 := (fwd_le o i m t ht (gi (o.fwd i m) t - 1)).2 ⟨by omega, fun b hb e ha hu => ?_⟩
  · omega
  · have h3 := h1 b hb e ha hu
    rcases Int.lt_or_eq_of_le h3 with h4 | h4
    · omega
    · exact absurd ⟨b, hb, e, ha, hu, h4⟩ hn
theorem bwd_att {o : Ob} {i : Nat} {m : List Int} {t : Nat} (ht : t < 8) (h : UU < gi (o.bwd i m) t) : ∃ b ∈ brT, b.fr = t ∧ o.allow i b = true ∧ UU < gi m b.tt ∧ gi m b.tt + o.term i b = gi (o.bwd i m) t := by
  refine Classical.byContradiction fun hn => ?_
  have h1 := ((bwd_le o i m t ht _).1 (Int.le_refl _)).2
  have h2 := (bwd_le o i m t ht (gi (o.bwd i m) t - 1)).2 ⟨by omega, fun b hb e ha hu => ?_⟩
  · omega
  · have h3 := h1 b hb e ha hu
    rcases Int.lt_or_eq_of_le h3 with h4 | h4
    · omega
    · exact absurd ⟨b, hb, e, ha, hu, h4⟩ hn
theorem val_att {o : Ob} {i bit : Nat} {f g : List Int} (h : UU < o.val i bit f g) : ∃ b ∈ brT, b.bt = bit ∧ UU < gi f b.fr ∧ UU < gi g b.tt ∧ gi f b.fr + o.term i b + gi g b.tt = o.val i bit f g := by
  refine Classical.byContradiction fun hn => ?_
  have h1 := ((val_le o i bit f g _).1 (Int.le_refl _)).2
  have h2 := (val_le o i bit f g (o.val i bit f g - 1)).2 ⟨by omega, fun b hb e ha hu => ?_⟩
  · omega
  · have h3 := h1 b hb e ha hu
    rcases Int.lt_or_eq_of_le h3 with h4 | h4
    · omega
    · exact absurd ⟨b, hb, e, ha, hu, h4⟩ hn
theorem br_uniq : ∀ b ∈ brT, ∀ c ∈ brT, b.fr = c.fr → b.bt = c.bt → b = c := by decide
theorem bq_of {b : Br} (hb : b ∈ brT) : bq (decide (b.bt = 1)) = b.bt := by
  have := (br_bd b hb).2.1
  rcases (by omega : b.bt = 0 ∨ b.bt = 1) with h | h <;> rw [h] <;> rfl
theorem mt_step (o : Ob) (bs : List Bool) (i : Nat) : o.mt bs (i + 1) = o.mt bs i + o.term i (cW bs i) := rfl
/-- a step of a path along a branch that it must take -/
theorem cW_eq {bs : List Bool} {i : Nat} (hi : i < bs.length + 3) {b : Br} (hb : b ∈ brT) (hf : sn (stW bs i) = b.fr) (ht : bq ((inW bs).getD i false) = b.bt) : cW bs i = b := br_uniq _ (cW_mem bs i hi) b hb hf ht
theorem f_att {o : Ob} (h : o.ok) : ∀ i, i ≤ o.k → ∀ t, t < 8 → UU < gi (o.f i) t → ∃ ps : List Bool, ps.length = i ∧ ∀ us : List Bool, ps.length + us.length = o.k → sn (stW (ps ++ us) i) = t ∧ o.mt (ps ++ us) i = gi (o.f i) t
  | 0, _, t, ht, hu => by
    have e : gi (o.f 0) t = if t = 0 then 0 else UU := gi_none0 t ht
    rw [e] at hu ⊢
    by_cases h0 : t = 0
    · subst h0
      exact ⟨[], rfl, fun us _ => ⟨rfl, rfl⟩⟩
    · rw [if_neg h0] at hu
      omega
  | i + 1, hi, t, ht, hu => by
    obtain ⟨b, hb, e, ha, hf, hv⟩ := fwd_att ht hu
    obtain ⟨ps, hl, hps⟩ := f_att h i (by omega) b.fr (br_bd b hb).1 hf
    refine ⟨ps ++ [decide (b.bt = 1)], by simp [hl], fun us hus => ?_⟩
    have hlen : (ps ++ (decide (b.bt = 1) :: us)).length = o.k := by simp at hus ⊢; omega
    obtain ⟨h1, h2⟩ := hps (decide (b.bt = 1) :: us) (by simp at hus ⊢; omega)
    rw [List.append_assoc, List.singleton_append]
    have hc : cW (ps ++ (decide (b.bt = 1) :: us)) i = b := by
      refine cW_eq (by omega) hb h1 ?_
      rw [inW_lo _ _ (by omega), List.getD_eq_getElem?_getD, List.getElem?_append_right (by omega), hl, Nat.sub_self]
      exact bq_of hb
    have h3 : sn (stW (ps ++ (decide (b.bt = 1) :: us)) (i + 1)) = b.tt := congrArg Br.tt hc
    refine ⟨by rw [h3, e], ?_⟩
    rw [mt_step, hc, h2]
    exact hv
theorem f_att_tail {o : Ob} (h : o.ok) : ∀ q, q ≤ 3 → ∀ t, t < 8 → UU < gi (o.f (o.k + q)) t → ∃ bs : List Bool, bs.length = o.k ∧ sn (stW bs (o.k + q)) = t ∧ o.mt bs (o.k + q) = gi (o.f (o.k + q)) t
  | 0, _, t, ht, hu => by
    obtain ⟨ps, hl, hps⟩ := f_att h o.k (Nat.le_refl _) t ht hu
    have := hps [] (by simp [hl])
    rw [List.append_nil] at this
    exact ⟨ps, hl, this⟩
  | q + 1, hq, t, ht, hu => by
    obtain ⟨b, hb, e, ha, hf, hv⟩ := fwd_att (i := o.k + q) ht hu
    obtain ⟨bs, hl, h1, h2⟩ := f_att_tail h q (by omega) b.fr (br_bd b hb).1 hf
    have hc : cW bs (o.k + q) = b := by
      refine cW_eq (by omega) hb h1 ?_
      have h3 := cW_tail bs (o.k + q) (by omega) (by omega)
      have h4 := allow_tail (Nat.le_add_right _ _) ha
      have h5 : (cW bs (o.k + q)).fr = b.fr := h1
      rw [h5, ← h4] at h3
      exact h3
    have h3 : sn (stW bs (o.k + q + 1)) = b.tt := congrArg Br.tt hc
    refine ⟨bs, hl, by rw [← Nat.add_assoc, h3, e], ?_⟩
    rw [← Nat.add_assoc, mt_step, hc, h2]
    exact hv
theorem b_att_tail {o : Ob} (h : o.ok) : ∀ d, d ≤ 3 → ∀ t, t < 8 → UU < gi (o.bd d) t → ∀ bs : List Bool, bs.length = o.k → sn (stW bs (o.s.length - d)) = t → o.mt bs o.s.length - o.mt bs (o.s.length - d) = gi (o.bd d) t
  | 0, _, t, ht, hu, bs, hl, hs => by
    have e : gi (o.bd 0) t = if t = 0 then 0 else UU := gi_none0 t ht
    rw [e] at hu ⊢
    rw [Nat.sub_zero, Int.sub_self]
    by_cases h0 : t = 0
    · rw [if_pos h0]
    · rw [if_neg h0] at hu; omega
  | d + 1, hd, t, ht, hu, bs, hl, hs => by
    have hn : o.s.length = o.k + 3 := h.2.2.1
    have e1 : o.s.length - 1 - d = o.s.length - (d + 1) := by omega
    have hu' : UU < gi (o.bwd (o.s.length - (d + 1)) (o.bd d)) t := by rw [← e1]; exact hu
    obtain ⟨b, hb, e, ha, hf, hv⟩ := bwd_att ht hu'
    have hc : cW bs (o.s.length - (d + 1)) = b := by
      refine cW_eq (by omega) hb (by rw [hs, e]) ?_
      have h3 := cW_tail bs (o.s.length - (d + 1)) (by omega) (by omega)
      have h4 := allow_tail (by show o.k ≤ _; omega) ha
      have h5 : (cW bs (o.s.length - (d + 1))).fr = b.fr := by rw [e]; exact hs
      rw [h5, ← h4] at h3
      exact h3
    have e2 : o.s.length - (d + 1) + 1 = o.s.length - d := by omega
    have h3 : sn (stW bs (o.s.length - (d + 1) + 1)) = b.tt := congrArg Br.tt hc
    rw [e2] at h3
    have h6 := b_att_tail h d (by omega) b.tt (br_bd b hb).2.2.2 hf bs hl h3
    have h7 := mt_step o bs (o.s.length - (d + 1))
    rw [e2, hc] at h7
    show _ = gi (o.bwd (o.s.length - 1 - d) (o.bd d)) t
    rw [e1, ← hv]
    omega
theorem b_att {o : Ob} (h : o.ok) : ∀ q, q ≤ o.k → ∀ t, t < 8 → UU < gi (o.bd (3 + q)) t → ∃ us : List Bool, us.length = q ∧ ∀ ps : List Bool, ps.length + us.length = o.k → sn (stW (ps ++ us) (o.k - q)) = t → o.mt (ps ++ us) o.s.length - o.mt (ps ++ us) (o.k - q) = gi (o.bd (3 + q)) t
  | 0, _, t, ht, hu => by
    have hn : o.s.length = o.k + 3 := h.2.2.1
    refine ⟨[], rfl, fun ps hl hs => ?_⟩
    have := b_att_tail h 3 (Nat.le_refl _) t ht hu (ps ++ []) (by simpa using hl) (by rw [show o.s.length - 3 = o.k - 0 from by omega]; exact hs)
    rwa [show o.s.length - 3 = o.k - 0 from by omega] at this
  | q + 1, hq, t, ht, hu => by
    have hn : o.s.length = o.k + 3 := h.2.2.1
    have e1 : o.s.length - 1 - (3 + q) = o.k - (q + 1) := by omega
    have hu' : UU < gi (o.bwd (o.k - (q + 1)) (o.bd (3 + q))) t := by rw [← e1]; exact hu
    obtain ⟨b, hb, e, ha, hf, hv⟩ := bwd_att ht hu'
    obtain ⟨us, hl, hus⟩ := b_att h q (by omega) b.tt (br_bd b hb).2.2.2 hf
    refine ⟨decide (b.bt = 1) :: us, by simp [hl], fun ps hps hs => ?_⟩
    have hpl : ps.length = o.k - (q + 1) := by simp [hl] at hps; omega
    have hlen : (ps ++ (decide (b.bt = 1) :: us)).length = o.k := by simp at hps ⊢; omega
    have hc : cW (ps ++ (decide (b.bt = 1) :: us)) (o.k - (q + 1)) = b := by
      refine cW_eq (by omega) hb (by rw [hs, e]) ?_
      rw [inW_lo _ _ (by omega), List.getD_eq_getElem?_getD, List.getElem?_append_right (by omega), hpl, Nat.sub_self]
      exact bq_of hb
    have e2 : o.k - (q + 1) + 1 = o.k - q := by omega
    have h3 : sn (stW (ps ++ (decide (b.bt = 1) :: us)) (o.k - (q + 1) + 1)) = b.tt := congrArg Br.tt hc
    rw [e2] at h3
    have e3 : ps ++ (decide (b.bt = 1) :: us) = (ps ++ [decide (b.bt = 1)]) ++ us := by simp
    have h6 := hus (ps ++ [decide (b.bt = 1)]) (by simp at hps ⊢; omega) (by rw [← e3]; exact h3)
    rw [← e3] at h6
    have h7 := mt_step o (ps ++ (decide (b.bt = 1) :: us)) (o.k - (q + 1))
    rw [e2, hc] at h7
    show _ = gi (o.bwd (o.s.length - 1 - (3 + q)) (o.bd (3 + q))) t
    rw [e1, ← hv]
    omega
theorem mb_le {o : Ob} (h : o.ok) {bs : List Bool} (hb : bs.length = o.k) : ∀ d, d ≤ o.s.length → o.mt bs o.s.length - o.mt bs (o.s.length - d) ≤ gi (o.bd d) (sn (stW bs (o.s.length - d)))
  | 0, _ => by
    have hn : o.s.length = o.k + 3 := h.2.2.1
    have e : sn (stW bs o.s.length) = 0 := by rw [hn, ← hb]; exact stW_end bs
    rw [Nat.sub_zero, Int.sub_self, e]
    show (0 : Int) ≤ gi none0 0
    rw [gi_none0 0 (by decide)]
    simp
  | d + 1, hd => by
    have hn : o.s.length = o.k + 3 := h.2.2.1
    have hl : o.k ≤ 6144 := h.2.1
    have ih := mb_le h hb d (by omega)
    have e1 : o.s.length - 1 - d = o.s.length - (d + 1) := by omega
    have e2 : o.s.length - (d + 1) + 1 = o.s.length - d := by omega
    have m1 := mt_bd h bs o.s.length (Nat.le_refl _)
    have m2 := mt_bd h bs (o.s.length - d) (by omega)
    have hm := cW_mem bs (o.s.length - (d + 1)) (by omega)
    have htt : (cW bs (o.s.length - (d + 1))).tt = sn (stW bs (o.s.length - d)) := by show sn (stW bs (o.s.length - (d + 1) + 1)) = _; rw [e2]
    have h8 := (br_bd _ hm).1
    have h2 := ((bwd_le o (o.s.length - (d + 1)) (o.bd d) (sn (stW bs (o.s.length - (d + 1)))) h8 _).1 (Int.le_refl _)).2 _ hm rfl (cW_allow hb _ (by omega)) (by rw [htt, UU_eq]; omega)
    rw [htt] at h2
    have h7 := mt_step o bs (o.s.length - (d + 1))
    rw [e2] at h7
    show _ ≤ gi (o.bwd (o.s.length - 1 - d) (o.bd d)) _
    rw [e1]
    refine Int.le_trans ?_ h2
    omega
theorem val_ge {o : Ob} (h : o.ok) {bs : List Bool} (hb : bs.length = o.k) (i : Nat) (hi : i < o.k) : o.mt bs o.s.length ≤ o.val i (bq (bs.getD i false)) (o.f i) (o.b (i + 1)) := by
  have hn : o.s.length = o.k + 3 := h.2.2.1
  have hl : o.k ≤ 6144 := h.2.1
  have h1 := mt_le h hb i (by omega)
  have h2 := mb_le h hb (o.s.length - (i + 1)) (by omega)
  have e : o.s.length - (o.s.length - (i + 1)) = i + 1 := by omega
  rw [e] at h2
  have m1 := mt_bd h bs o.s.length (Nat.le_refl _)
  have m2 := mt_bd h bs (i + 1) (by omega)
  have m3 := mt_bd h bs i (by omega)
  have hbt : (cW bs i).bt = bq (bs.getD i false) := by show bq ((inW bs).getD i false) = _; rw [inW_lo bs i (by omega)]
  have h3 := ((val_le o i (bq (bs.getD i false)) (o.f i) (o.b (i + 1)) _).1 (Int.le_refl _)).2 (cW bs i) (cW_mem bs i (by omega)) hbt (by show UU < gi (o.f i) (sn (stW bs i)); rw [UU_eq]; omega) (by show UU < gi (o.bd (o.s.length - (i + 1))) (sn (stW bs (i + 1))); rw [UU_eq]; omega)
  have h7 := mt_step o bs i
  have h4 : gi (o.f i) (sn (stW bs i)) + o.term i (cW bs i) + gi (o.bd (o.s.length - (i + 1))) (sn (stW bs (i + 1))) ≤ o.val i (bq (bs.getD i false)) (o.f i) (o.b (i + 1)) := h3
  omega
theorem val_is {o : Ob} (h : o.ok) (i : Nat) (hi : i < o.k) (bit : Nat) (hbit : bit < 2) : ∃ bs : List Bool, bs.length = o.k ∧ bq (bs.getD i false) = bit ∧ o.mt bs o.s.length = o.val i bit (o.f i) (o.b (i + 1)) := by
  have hn : o.s.length = o.k + 3 := h.2.2.1
  have hl : o.k ≤ 6144 := h.2.1
  have hlow : UU < o.val i bit (o.f i) (o.b (i + 1)) := by
    have h1 := val_ge h (bs := List.replicate o.k (decide (bit = 1))) (by simp) i hi
    have m1 := mt_bd h (List.replicate o.k (decide (bit = 1))) o.s.length (Nat.le_refl _)
    have e : bq ((List.replicate o.k (decide (bit = 1))).getD i false) = bit := by
      rw [List.getD_eq_getElem?_getD, List.getElem?_replicate, if_pos hi]
      rcases (by omega : bit = 0 ∨ bit = 1) with rfl | rfl <;> rfl
    rw [e] at h1
    rw [UU_eq]
    omega
  obtain ⟨b, hb, e, hf, hg, hv⟩ := val_att hlow
  obtain ⟨q, hq⟩ : ∃ q, i + 1 + q = o.k := ⟨o.k - (i + 1), by omega⟩
  have ed : o.s.length - (i + 1) = 3 + q := by omega
  unfold Ob.b at hg hv ⊢
  rw [ed] at hg hv ⊢
  obtain ⟨ps, hpl, hps⟩ := f_att h i (by omega) b.fr (br_bd b hb).1 hf
  obtain ⟨us, hul, hus⟩ := b_att h q (by omega) b.tt (br_bd b hb).2.2.2 hg
  obtain ⟨h1, h2⟩ := hps (decide (b.bt = 1) :: us) (by simp; omega)
  have hget : (ps ++ (decide (b.bt = 1) :: us)).getD i false = decide (b.bt = 1) := by
    rw [List.getD_eq_getElem?_getD, List.getElem?_append_right (by omega), hpl, Nat.sub_self]
    rfl
  have hlen : (ps ++ (decide (b.bt = 1) :: us)).length = o.k := by simp; omega
  have hc : cW (ps ++ (decide (b.bt = 1) :: us)) i = b := by
    refine cW_eq (by omega) hb h1 ?_
    rw [inW_lo _ _ (by omega), hget]
    exact bq_of hb
  have h3 : sn (stW (ps ++ (decide (b.bt = 1) :: us)) (i + 1)) = b.tt := congrArg Br.tt hc
  have e3 : ps ++ (decide (b.bt = 1) :: us) = (ps ++ [decide (b.bt = 1)]) ++ us := by simp
  have h6 := hus (ps ++ [decide (b.bt = 1)]) (by simp; omega) (by rw [← e3, show o.k - q = i + 1 from by omega]; exact h3)
  rw [← e3, show o.k - q = i + 1 from by omega] at h6
  have h7 := mt_step o (ps ++ (decide (b.bt = 1) :: us)) i
  rw [hc, h2] at h7
  refine ⟨_, hlen, by rw [hget, ← e]; exact bq_of hb, ?_⟩
  rw [← hv]
  omega
theorem great_is {o : Ob} (h : o.ok) : ∃ bs : List Bool, bs.length = o.k ∧ o.mt bs o.s.length = gi (o.f o.s.length) 0 := by
  have hn : o.s.length = o.k + 3 := h.2.2.1
  have hl : o.k ≤ 6144 := h.2.1
  have h1 := mt_top h (bs := List.replicate o.k false) (by simp [Ob.k])
  have m1 := mt_bd h (List.replicate o.k false) o.s.length (Nat.le_refl _)
  obtain ⟨bs, hb, -, hv⟩ := f_att_tail h 3 (Nat.le_refl _) 0 (by decide) (by rw [← hn, UU_eq]; omega)
  rw [← hn] at hv
  exact ⟨bs, hb, hv⟩
theorem max_vals {o : Ob} (h : o.ok) (i : Nat) (hi : i < o.k) : max (o.val i 0 (o.f i) (o.b (i + 1))) (o.val i 1 (o.f i) (o.b (i + 1))) = gi (o.f o.s.length) 0 := by
  obtain ⟨b0, l0, -, v0⟩ := val_is h i hi 0 (by decide)
  obtain ⟨b1, l1, -, v1⟩ := val_is h i hi 1 (by decide)
  obtain ⟨b2, l2, v2⟩ := great_is h
  have h0 := mt_top h (bs := b0) l0
  have h1 := mt_top h (bs := b1) l1
  have h2 := val_ge h l2 i hi
  rcases (by have := bq_lt (b2.getD i false); omega : bq (b2.getD i false) = 0 ∨ bq (b2.getD i false) = 1) with e | e <;> rw [e] at h2 <;> omega
theorem mt_par (o : Ob) (bs cs : List Bool) : ∀ i, (o.mt bs i - o.mt cs i) % 2 = 0
  | 0 => rfl
  | i + 1 => by
    have ih := mt_par o bs cs i
    have q : ∀ ds : List Bool, ∃ z, o.term i (brW ds i) = o.x i + gi o.p i + 2 * z := fun ds => by
      unfold Ob.term
      rcases mul_sgn (o.x i) _ (bq_lt ((inW ds).getD i false)) with e1 | e1 <;> rcases mul_sgn (gi o.p i) _ (bq_lt ((outW ds).getD i false)) with e2 | e2
      · exact ⟨0, by show o.x i * (1 - 2 * (bq ((inW ds).getD i false) : Int)) + gi o.p i * (1 - 2 * (bq ((outW ds).getD i false) : Int)) = _; rw [e1, e2]; omega⟩
      · exact ⟨-gi o.p i, by show o.x i * (1 - 2 * (bq ((inW ds).getD i false) : Int)) + gi o.p i * (1 - 2 * (bq ((outW ds).getD i false) : Int)) = _; rw [e1, e2]; omega⟩
      · exact ⟨-o.x i, by show o.x i * (1 - 2 * (bq ((inW ds).getD i false) : Int)) + gi o.p i * (1 - 2 * (bq ((outW ds).getD i false) : Int)) = _; rw [e1, e2]; omega⟩
      · exact ⟨-o.x i - gi o.p i, by show o.x i * (1 - 2 * (bq ((inW ds).getD i false) : Int)) + gi o.p i * (1 - 2 * (bq ((outW ds).getD i false) : Int)) = _; rw [e1, e2]; omega⟩
    obtain ⟨z1, h1⟩ := q bs
    obtain ⟨z2, h2⟩ := q cs
    simp only [Ob.mt]
    omega
theorem tot_two {o : Ob} (h : o.ok) (i : Nat) (hi : i < o.k) : 2 * o.tot i = o.val i 0 (o.f i) (o.b (i + 1)) - o.val i 1 (o.f i) (o.b (i + 1)) := by
  obtain ⟨b0, l0, -, v0⟩ := val_is h i hi 0 (by decide)
  obtain ⟨b1, l1, -, v1⟩ := val_is h i hi 1 (by decide)
  have hp := mt_par o b0 b1 o.s.length
  unfold Ob.tot
  rw [← v0, ← v1]
  obtain ⟨y, hy⟩ : ∃ y, o.mt b0 o.s.length - o.mt b1 o.s.length = 2 * y := ⟨(o.mt b0 o.s.length - o.mt b1 o.s.length) / 2, by omega⟩
  rw [hy, Int.mul_tdiv_cancel_left _ (by decide)]
/-- the bits of a number, the lowest first -/
def bitsN (n k : Nat) : List Bool := (List.range k).map fun j => n.testBit j
theorem bitsN_len (n k : Nat) : (bitsN n k).length = k := by simp [bitsN]
theorem bitsN_succ (n k : Nat) : bitsN n (k + 1) = bitsN n k ++ [n.testBit k] := by simp [bitsN, List.range_succ]
theorem bitsN_get (n k j : Nat) (h : j < k) : (bitsN n k).getD j false = n.testBit j := by simp [bitsN, List.getD, h]
theorem bitsN_all : ∀ bs : List Bool, ∃ n, n < 2 ^ bs.length ∧ bitsN n bs.length = bs
  | [] => ⟨0, by simp, rfl⟩
  | b :: bs => by
    obtain ⟨n, hn, hb⟩ := bitsN_all bs
    refine ⟨2 * n + (if b then 1 else 0), by rw [List.length_cons, Nat.pow_succ]; split <;> omega, ?_⟩
    refine List.ext_getElem (by simp [bitsN]) fun j h1 h2 => ?_
    have hj : j < (b :: bs).length := h2
    simp only [bitsN, List.getElem_map, List.getElem_range]
    cases j with
    | zero => cases b <;> simp [Nat.testBit_zero]
    | succ j =>
      have hj' : j < bs.length := by simpa using hj
      have e : (2 * n + (if b then 1 else 0)) / 2 = n := by split <;> omega
      rw [Nat.testBit_succ, e, List.getElem_cons_succ]
      have h3 : (bitsN n bs.length)[j]'(by rw [bitsN_len]; exact hj') = bs[j] := by simp only [hb]
      simpa [bitsN] using h3
end Go.Proofs.Ytmdjclfmhndjnaa
