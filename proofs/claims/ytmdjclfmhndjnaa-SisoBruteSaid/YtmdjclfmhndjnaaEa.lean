/-
  The sweeps told by their upper bounds; turning an observation by a codeword turns states and totals. Condition: none.
-/
import Derived.Test.YtmdjclfmhndjnaaCn
namespace Go.Proofs.Ytmdjclfmhndjnaa
open Go.RowKit
set_option linter.unusedVariables false
theorem eq_of_le {a b : Int} (h : ∀ v, a ≤ v ↔ b ≤ v) : a = b := Int.le_antisymm ((h b).2 (Int.le_refl _)) ((h a).1 (Int.le_refl _))
theorem foldF_le (o : Ob) (i : Nat) (m : List Int) (t : Nat) (ht : t < 8) (v : Int) : ∀ (l : List Br) (nx : List Int), (∀ b ∈ l, b ∈ brT) → nx.length = 8 →
    (gi (l.foldl (o.fB i m) nx) t ≤ v ↔ gi nx t ≤ v ∧ ∀ b ∈ l, b.tt = t → o.allow i b = true → UU < gi m b.fr → gi m b.fr + o.term i b ≤ v)
  | [], nx, _, _ => by simp
  | b :: l, nx, hb, hn => by
    have hb1 := br_bd b (hb b (by simp))
    have hlen : (o.fB i m nx b).length = 8 := by unfold Ob.fB; split <;> simp [hn]
    rw [List.foldl_cons, foldF_le o i m t ht v l _ (fun c hc => hb c (by simp [hc])) hlen]
    have key : gi (o.fB i m nx b) t ≤ v ↔ gi nx t ≤ v ∧ (b.tt = t → o.allow i b = true → UU < gi m b.fr → gi m b.fr + o.term i b ≤ v) := by
      unfold Ob.fB
      by_cases hc : o.allow i b = true ∧ UU < gi m b.fr
      · rw [if_pos hc, gi_set' _ _ _ _ (by omega)]
        by_cases e : b.tt = t
        · rw [if_pos e, e]
          constructor
          · intro h; exact ⟨by omega, fun _ _ _ => by omega⟩
          · rintro ⟨h1, h2⟩; have := h2 rfl hc.1 hc.2; omega
        · rw [if_neg e]
          exact ⟨fun h => ⟨h, fun e' => absurd e' e⟩, fun h => h.1⟩
      · rw [if_neg hc]
        exact ⟨fun h => ⟨h, fun _ h1 h2 => absurd ⟨h1, h2⟩ hc⟩, fun h => h.1⟩
    rw [key]
    simp only [List.mem_cons, forall_eq_or_imp, and_assoc]
theorem foldB_le (o : Ob) (i : Nat) (m : List Int) (t : Nat) (ht : t < 8) (v : Int) : ∀ (l : List Br) (nx : List Int), (∀ b ∈ l, b ∈ brT) → nx.length = 8 →
    (gi (l.foldl (o.bB i m) nx) t ≤ v ↔ gi nx t ≤ v ∧ ∀ b ∈ l, b.fr = t → o.allow i b = true → UU < gi m b.tt → gi m b.tt + o.term i b ≤ v)
  | [], nx, _, _ => by simp
  | b :: l, nx, hb, hn => by
    have hb1 := br_bd b (hb b (by simp))
    have hlen : (o.bB i m nx b).length = 8 := by unfold Ob.bB; split <;> simp [hn]
    rw [List.foldl_cons, foldB_le o i m t ht v l _ (fun c hc => hb c (by simp [hc])) hlen]
    have key : gi (o.bB i m nx b) t ≤ v ↔ gi nx t ≤ v ∧ (b.fr = t → o.allow i b = true → UU < gi m b.tt → gi m b.tt + o.term i b ≤ v) := by
      unfold Ob.bB
      by_cases hc : o.allow i b = true ∧ UU < gi m b.tt
      · rw [if_pos hc, gi_set' _ _ _ _ (by omega)]
        by_cases e : b.fr = t
        · rw [if_pos e, e]
          constructor
          · intro h; exact ⟨by omega, fun _ _ _ => by omega⟩
          · rintro ⟨h1, h2⟩; have := h2 rfl hc.1 hc.2; omega
        · rw [if_neg e]
          exact ⟨fun h => ⟨h, fun e' => absurd e' e⟩, fun h => h.1⟩
      · rw [if_neg hc]
        exact ⟨fun h => ⟨h, fun _ h1 h2 => absurd ⟨h1, h2⟩ hc⟩, fun h => h.1⟩
    rw [key]
    simp only [List.mem_cons, forall_eq_or_imp, and_assoc]
theorem foldV_le (o : Ob) (i bit : Nat) (f g : List Int) (v : Int) : ∀ (l : List Br) (best : Int),
    (l.foldl (o.vB i bit f g) best ≤ v ↔ best ≤ v ∧ ∀ b ∈ l, b.bt = bit → UU < gi f b.fr → UU < gi g b.tt → gi f b.fr + o.term i b + gi g b.tt ≤ v)
  | [], best => by simp
  | b :: l, best => by
    rw [List.foldl_cons, foldV_le o i bit f g v l]
    have key : o.vB i bit f g best b ≤ v ↔ best ≤ v ∧ (b.bt = bit → UU < gi f b.fr → UU < gi g b.tt → gi f b.fr + o.term i b + gi g b.tt ≤ v) := by
      unfold Ob.vB
      by_cases hc : b.bt = bit ∧ UU < gi f b.fr ∧ UU < gi g b.tt
      · rw [if_pos hc]
        constructor
        · intro h; exact ⟨by omega, fun _ _ _ => by omega⟩
        · rintro ⟨h1, h2⟩; have := h2 hc.1 hc.2.1 hc.2.2; omega
      · rw [if_neg hc]
        exact ⟨fun h => ⟨h, fun h1 h2 h3 => absurd ⟨h1, h2, h3⟩ hc⟩, fun h => h.1⟩
    rw [key]
    simp only [List.mem_cons, forall_eq_or_imp, and_assoc]
theorem fwd_le (o : Ob) (i : Nat) (m : List Int) (t : Nat) (ht : t < 8) (v : Int) : gi (o.fwd i m) t ≤ v ↔ UU ≤ v ∧ ∀ b ∈ brT, b.tt = t → o.allow i b = true → UU < gi m b.fr → gi m b.fr + o.term i b ≤ v := by
  unfold Ob.fwd
  rw [foldF_le o i m t ht v brT noneL (fun _ h => h) (by simp [noneL]), gi_noneL t ht]
theorem bwd_le (o : Ob) (i : Nat) (m : List Int) (t : Nat) (ht : t < 8) (v : Int) : gi (o.bwd i m) t ≤ v ↔ UU ≤ v ∧ ∀ b ∈ brT, b.fr = t → o.allow i b = true → UU < gi m b.tt → gi m b.tt + o.term i b ≤ v := by
  unfold Ob.bwd
  rw [foldB_le o i m t ht v brT noneL (fun _ h => h) (by simp [noneL]), gi_noneL t ht]
theorem val_le (o : Ob) (i bit : Nat) (f g : List Int) (v : Int) : o.val i bit f g ≤ v ↔ UU ≤ v ∧ ∀ b ∈ brT, b.bt = bit → UU < gi f b.fr → UU < gi g b.tt → gi f b.fr + o.term i b + gi g b.tt ≤ v := by
  unfold Ob.val
  exact foldV_le o i bit f g v brT UU
/-! ### turning -/
def bx (c b : Br) : Br := ⟨b.fr ^^^ c.fr, b.bt ^^^ c.bt, b.pr ^^^ c.pr, b.tt ^^^ c.tt⟩
theorem bx_mem : ∀ c ∈ brT, ∀ b ∈ brT, bx c b ∈ brT ∧ bx c (bx c b) = b ∧ ((bx c b).bt = tailBit (bx c b).fr ↔ (c.bt = tailBit c.fr ↔ b.bt = tailBit b.fr)) := by decide
theorem x8 : ∀ a, a < 8 → ∀ b, b < 8 → a ^^^ b < 8 ∧ a ^^^ b ^^^ b = a := by decide
theorem x8_inj {a b c : Nat} (ha : a < 8) (hb : b < 8) (hc : c < 8) : a ^^^ c = b ^^^ c ↔ a = b :=
  ⟨fun h => by rw [← (x8 a ha c hc).2, ← (x8 b hb c hc).2, h], fun h => by rw [h]⟩
theorem all_bx {c : Br} (hc : c ∈ brT) {P : Br → Prop} : (∀ b ∈ brT, P (bx c b)) ↔ ∀ b ∈ brT, P b :=
  ⟨fun h b hb => by have := h _ (bx_mem c hc b hb).1; rwa [(bx_mem c hc b hb).2.1] at this, fun h b hb => h _ (bx_mem c hc b hb).1⟩
theorem sg_x : ∀ a, a < 2 → ∀ b, b < 2 → (1 - 2 * ((a ^^^ b : Nat) : Int)) = (1 - 2 * (a : Int)) * (1 - 2 * (b : Int)) ∧ (1 - 2 * (b : Int)) * (1 - 2 * (b : Int)) = 1 := by decide
/-- o' is o turned by the codeword with the branches c -/
structure Tn (o o' : Ob) (c : Nat → Br) : Prop where
  n : o'.s.length = o.s.length
  k : o'.k = o.k
  mem : ∀ i, i < o.s.length → c i ∈ brT
  st : ∀ i, i < o.s.length → (c i).tt = (c (i + 1)).fr
  s0 : (c 0).fr = 0
  sn : (c o.s.length).fr = 0
  tl : ∀ i, i < o.s.length → o.k ≤ i → (c i).bt = tailBit (c i).fr
  x : ∀ i, i < o.s.length → o'.x i = o.x i * (1 - 2 * ((c i).bt : Int))
  p : ∀ i, i < o.s.length → gi o'.p i = gi o.p i * (1 - 2 * ((c i).pr : Int))
theorem Tn.fr {o o' : Ob} {c : Nat → Br} (h : Tn o o' c) (i : Nat) (hi : i ≤ o.s.length) : (c i).fr < 8 := by
  rcases Nat.lt_or_ge i o.s.length with h1 | h1
  · exact (br_bd _ (h.mem i h1)).1
  · have : i = o.s.length := by omega
    rw [this, h.sn]; decide
theorem Tn.term {o o' : Ob} {c : Nat → Br} (h : Tn o o' c) (i : Nat) (hi : i < o.s.length) (b : Br) (hb : b ∈ brT) : o'.term i b = o.term i (bx (c i) b) := by
  obtain ⟨-, b1, b2, -⟩ := br_bd b hb
  obtain ⟨-, c1, c2, -⟩ := br_bd _ (h.mem i hi)
  unfold Ob.term bx
  rw [h.x i hi, h.p i hi]
  dsimp only
  rw [(sg_x _ b1 _ c1).1, (sg_x _ b2 _ c2).1]
  rw [Int.mul_assoc, Int.mul_assoc, Int.mul_comm (1 - 2 * ((c i).bt : Int)), Int.mul_comm (1 - 2 * ((c i).pr : Int))]
theorem Tn.allow {o o' : Ob} {c : Nat → Br} (h : Tn o o' c) (i : Nat) (hi : i < o.s.length) (b : Br) (hb : b ∈ brT) : o'.allow i b = o.allow i (bx (c i) b) := by
  unfold Ob.allow
  rw [h.k]
  by_cases hk : i < o.k
  · simp [hk]
  · have h1 := (bx_mem _ (h.mem i hi) b hb).2.2
    have h2 := h.tl i hi (by omega)
    simp only [h2, true_iff] at h1
    have h3 : decide ((bx (c i) b).bt = tailBit (bx (c i) b).fr) = decide (b.bt = tailBit b.fr) := by simp only [h1]
    rw [h3]
theorem Tn.fwd {o o' : Ob} {c : Nat → Br} (h : Tn o o' c) (i : Nat) (hi : i < o.s.length) (m m' : List Int) (hm : ∀ t, t < 8 → gi m' t = gi m (t ^^^ (c i).fr)) :
    ∀ t, t < 8 → gi (o'.fwd i m') t = gi (o.fwd i m) (t ^^^ (c (i + 1)).fr) := by
  intro t ht
  have hc := h.mem i hi
  have hc4 := (br_bd _ hc).2.2.2
  rw [← h.st i hi]
  refine eq_of_le fun v => ?_
  rw [fwd_le _ _ _ _ ht, fwd_le _ _ _ _ (x8 _ ht _ hc4).1]
  refine and_congr_right fun _ => ?_
  refine Iff.trans ?_ (all_bx hc)
  refine forall₂_congr fun b hb => ?_
  have b4 := br_bd b hb
  rw [h.term i hi b hb, h.allow i hi b hb, hm _ b4.1]
  show _ ↔ (b.tt ^^^ (c i).tt = t ^^^ (c i).tt → _)
  rw [x8_inj b4.2.2.2 ht hc4]
  rfl
theorem Tn.bwd {o o' : Ob} {c : Nat → Br} (h : Tn o o' c) (i : Nat) (hi : i < o.s.length) (m m' : List Int) (hm : ∀ t, t < 8 → gi m' t = gi m (t ^^^ (c (i + 1)).fr)) :
    ∀ t, t < 8 → gi (o'.bwd i m') t = gi (o.bwd i m) (t ^^^ (c i).fr) := by
  intro t ht
  have hc := h.mem i hi
  have hc1 := (br_bd _ hc).1
  rw [← h.st i hi] at hm
  refine eq_of_le fun v => ?_
  rw [bwd_le _ _ _ _ ht, bwd_le _ _ _ _ (x8 _ ht _ hc1).1]
  refine and_congr_right fun _ => ?_
  refine Iff.trans ?_ (all_bx hc)
  refine forall₂_congr fun b hb => ?_
  have b4 := br_bd b hb
  rw [h.term i hi b hb, h.allow i hi b hb, hm _ b4.2.2.2]
  show _ ↔ (b.fr ^^^ (c i).fr = t ^^^ (c i).fr → _)
  rw [x8_inj b4.1 ht hc1]
  rfl
theorem x2_inj : ∀ a, a < 2 → ∀ b, b < 2 → ∀ c, c < 2 → (a ^^^ c = b ^^^ c ↔ a = b) := by decide
theorem Tn.val {o o' : Ob} {c : Nat → Br} (h : Tn o o' c) (i : Nat) (hi : i < o.s.length) (bit : Nat) (hbit : bit < 2) (f f' g g' : List Int) (hf : ∀ t, t < 8 → gi f' t = gi f (t ^^^ (c i).fr)) (hg : ∀ t, t < 8 → gi g' t = gi g (t ^^^ (c (i + 1)).fr)) :
    o'.val i bit f' g' = o.val i (bit ^^^ (c i).bt) f g := by
  have hc := h.mem i hi
  rw [← h.st i hi] at hg
  refine eq_of_le fun v => ?_
  rw [val_le, val_le]
  refine and_congr_right fun _ => ?_
  refine Iff.trans ?_ (all_bx hc)
  refine forall₂_congr fun b hb => ?_
  have b4 := br_bd b hb
  rw [h.term i hi b hb, hf _ b4.1, hg _ b4.2.2.2]
  show _ ↔ (b.bt ^^^ (c i).bt = bit ^^^ (c i).bt → _)
  rw [x2_inj _ b4.2.1 _ hbit _ (br_bd _ hc).2.1]
  rfl
theorem Tn.f {o o' : Ob} {c : Nat → Br} (h : Tn o o' c) : ∀ i, i ≤ o.s.length → ∀ t, t < 8 → gi (o'.f i) t = gi (o.f i) (t ^^^ (c i).fr)
  | 0, _, t, ht => by rw [h.s0, Nat.xor_zero]; rfl
  | i + 1, hi, t, ht => h.fwd i (by omega) _ _ (h.f i (by omega)) t ht
theorem Tn.bd {o o' : Ob} {c : Nat → Br} (h : Tn o o' c) : ∀ d, d ≤ o.s.length → ∀ t, t < 8 → gi (o'.bd d) t = gi (o.bd d) (t ^^^ (c (o.s.length - d)).fr)
  | 0, _, t, ht => by rw [Nat.sub_zero, h.sn, Nat.xor_zero]; rfl
  | d + 1, hd, t, ht => by
    show gi (o'.bwd (o'.s.length - 1 - d) (o'.bd d)) t = gi (o.bwd (o.s.length - 1 - d) (o.bd d)) _
    have e1 : o.s.length - 1 - d = o.s.length - (d + 1) := by omega
    have e2 : o.s.length - (d + 1) + 1 = o.s.length - d := by omega
    rw [h.n, e1]
    exact h.bwd _ (by omega) _ _ (by rw [e2]; exact h.bd d (by omega)) t ht
theorem Tn.tot {o o' : Ob} {c : Nat → Br} (h : Tn o o' c) (i : Nat) (hi : i < o.s.length) : o'.tot i = o.tot i * (1 - 2 * ((c i).bt : Int)) := by
  have hb := h.bd (o.s.length - (i + 1)) (by omega)
  have e : o.s.length - (o.s.length - (i + 1)) = i + 1 := by omega
  rw [e] at hb
  unfold Ob.tot Ob.b
  rw [h.n]
  have q : ∀ bit, bit < 2 → _ := fun bit hb2 => h.val i hi bit hb2 _ _ _ _ (h.f i (by omega)) hb
  rw [q 0 (by decide), q 1 (by decide)]
  rcases (by have := (br_bd _ (h.mem i hi)).2.1; omega : (c i).bt = 0 ∨ (c i).bt = 1) with e | e <;> rw [e]
  · simp
  · show (Int.tdiv (o.val i 1 _ _ - o.val i 0 _ _) 2) = Int.tdiv (o.val i 0 _ _ - o.val i 1 _ _) 2 * (1 - 2 * 1)
    rw [show (1 - 2 * 1 : Int) = -1 from rfl, Int.mul_neg_one, ← Int.neg_tdiv, Int.neg_sub]
end Go.Proofs.Ytmdjclfmhndjnaa
