/- Bundle. Conditions: none. -/
import Derived.Test.YtkdfefpnhaebfaaGreatBuoaj
set_option linter.unusedVariables false
set_option linter.unusedSimpArgs false
namespace Go.Proofs.YtkdfefpnhaebfaaGreat
open Go.RowKit
def noPanic (Q : Exit → Act → World → Prop) : Exit → Act → World → Prop
 | .panic _, _, _ => False
 | e, a, w => Q e a w
theorem wp_nopanic {P : Program} {c : Code} {Q : Exit → Act → World → Prop} {a : Act} {w : World} (h : c.wp P (noPanic Q) a w) : c.wp P Q a w :=
 Code.wp_mono (fun e a w h => by cases e <;> first | exact h | exact h.elim) h
theorem noPanic_normal {Q : Exit → Act → World → Prop} {a : Act} {w : World} (h : Q .normal a w) : noPanic Q .normal a w := h
def bz (n m : Nat) : Array Bool := ((List.range n).map m.testBit).toArray
theorem z0 {α : Type} {l : List α} {i : Nat} {a : α} : l.toArray.setIfInBounds i a = (l.set i a).toArray := List.setIfInBounds_toArray _ _ _
theorem z1 {α : Type} {x a : α} {xs : List α} : (x :: xs).set 0 a = a :: xs := List.set_cons_zero
theorem z2 {α : Type} {x a : α} {xs : List α} {n : Nat} : (x :: xs).set (n + 1) a = x :: xs.set n a := List.set_cons_succ
def ckI (md : Region.Mode) (ops : Array Oper) (n m m' i : Nat) : Bool := decide ((bz n m).setIfInBounds i true = bz n m') && (Region.ready md ops (bz n m)).contains i
def ckD (ops : Array Oper) (i d : Nat) : Bool := match ops[i]? with
 | some o => decide (o.dst = some d)
 | none => false
def ckW (md : Region.Mode) (ops : Array Oper) (p n m m' i d : Nat) : Bool := ckI md ops n m m' i && ckD ops i d && Region.noSelect ops && Region.free md ops (bz n m) i && decide (p ≠ i)
def ckT (md : Region.Mode) (ops : Array Oper) (p n m m' i d : Nat) (xs : List Nat) : Bool := ckW md ops p n m m' i d && pathB md ops i p xs && closedB md ops (bz n m) && decide ((bz n m).getD p true = false)
def ckO (md : Region.Mode) (ops : Array Oper) (n m m' i : Nat) : Bool := decide ((bz n m).setIfInBounds i true = bz n m') && decide (Region.ready md ops (bz n m) = [i])
section
variable {P : Program} {ops : Array Oper} {Q : Exit → Act → World → Prop} {md : Region.Mode} {S : World → Prop} {p n m fuel : Nat} {ts : Array Value} {ds : List Deferred} {w : World} {oi : Oper} {a : Act}
theorem ckD_of {i d : Nat} (h : ckD ops i d = true) (hi : ops[i]? = some oi) : oi.dst = some d := by
 unfold ckD at h; rw [hi] at h; exact of_decide_eq_true h
theorem ckW_of {m' i d : Nat} (h : ckW md ops p n m m' i d = true) (hi : ops[i]? = some oi) : ((bz n m).setIfInBounds i true = bz n m' ∧ (Region.ready md ops (bz n m)).contains i = true) ∧ oi.dst = some d ∧ Region.noSelect ops = true ∧ Region.free md ops (bz n m) i = true ∧ p ≠ i := by
 unfold ckW at h
 simp only [Bool.and_eq_true, decide_eq_true_eq, ckI] at h
 obtain ⟨⟨⟨⟨⟨h1, h2⟩, h3⟩, h4⟩, h5⟩, h6⟩ := h
 exact ⟨⟨h1, h2⟩, ckD_of h3 hi, h4, h5, h6⟩
theorem Q_start {id : Nat} (S : World → Prop) (p n : Nat) (h : wpAnyP P .any ops (noPanic Q) S p n (bz n 0) a w.drew) (hn : ops.size = n := by kernel_rfl) (hl : Array.replicate n false = bz n 0 := by kernel_rfl) (hm : P.follows .mixedOrders = true := by kernel_rfl) : (Code.region id ops true).wp P Q a w :=
 wp_nopanic (P_start S p n (bz n 0) hn hl hm h)
theorem Q_W (i d m' : Nat) (v : Value) (hi : ops[i]? = some oi) (hS : S w) (h : wpAnyP P md ops (noPanic Q) S p fuel (bz n m') ⟨ts.setIfInBounds d v, ds⟩ w)
 (hc : ckW md ops p n m m' i d = true := by kernel_rfl) (hy : YieldsIf P ops (fun _ => True) oi v ⟨ts, ds⟩ := by exact .inl ⟨by rfl, fun _ _ => by go_simp⟩) : wpAnyP P md ops (noPanic Q) S p (fuel + 1) (bz n m) ⟨ts, ds⟩ w := by
 obtain ⟨⟨h1, h2⟩, h3, h4, h5, h6⟩ := ckW_of hc hi
 exact P_takeW i d v _ hi h3 h1 h4 h5 h2 h6 (fun _ _ _ h => h) hy hS h
theorem Q_T (i d m' : Nat) (v : Value) (xs : List Nat) (hi : ops[i]? = some oi) (hS : S w) (hy : YieldsIf P ops S oi v ⟨ts, ds⟩) (h : wpAnyP P md ops (noPanic Q) S p fuel (bz n m') ⟨ts.setIfInBounds d v, ds⟩ w)
 (hc : ckT md ops p n m m' i d xs = true := by kernel_rfl) : wpAnyP P md ops (noPanic Q) S p (fuel + 1) (bz n m) ⟨ts, ds⟩ w := by
 unfold ckT at hc
 simp only [Bool.and_eq_true, decide_eq_true_eq] at hc
 obtain ⟨⟨⟨hc, g1⟩, g2⟩, g3⟩ := hc
 obtain ⟨⟨h1, h2⟩, h3, h4, h5, h6⟩ := ckW_of hc hi
 exact P_takeT i d v _ xs hi h3 h1 h4 h5 h2 g1 g2 g3 h6 (fun _ _ _ h => h) hy hS h
theorem Q_X (i d m' : Nat) (v : Value) (hi : ops[i]? = some oi) (h : wpAnyP P md ops (noPanic Q) S p fuel (bz n m') ⟨ts.setIfInBounds d v, ds⟩ w)
 (hc : ckW md ops p n m m' i d = true := by kernel_rfl) (hp : (bz n m).getD p true = true := by kernel_rfl) (hy : YieldsIf P ops (fun _ => True) oi v ⟨ts, ds⟩ := by exact .inl ⟨by rfl, fun _ _ => by go_simp⟩) : wpAnyP P md ops (noPanic Q) S p (fuel + 1) (bz n m) ⟨ts, ds⟩ w := by
 obtain ⟨⟨h1, h2⟩, h3, h4, h5, h6⟩ := ckW_of hc hi
 exact P_takeX i d v _ hi h3 h1 h4 h5 h2 h6 (fun _ _ _ h => h) hy hp h
theorem Q_1 (i m' : Nat) (hi : ops[i]? = some oi) (h : ∀ K : Act → World → Prop, (∀ a' w', wpAnyP P md ops Q S p fuel (bz n m') a' w' → K a' w') → oi.wp P a w K Q)
 (hc : ckO md ops n m m' i = true := by kernel_rfl) (hg : Region.wanted oi (yielded ops a.tmps) = true := by rfl) (hp : (bz n m').getD p true = true := by kernel_rfl) : wpAnyP P md ops Q S p (fuel + 1) (bz n m) a w := by
 unfold ckO at hc
 simp only [Bool.and_eq_true, decide_eq_true_eq] at hc
 exact P_oneG i _ hi hc.1 hc.2 hg hp h
theorem Q_1S (i m' : Nat) (hi : ops[i]? = some oi) (h : ∀ K : Act → World → Prop, (∀ a' w', S w' → wpAnyP P md ops Q S p fuel (bz n m') a' w' → K a' w') → oi.wp P a w K Q)
 (hc : ckO md ops n m m' i = true := by kernel_rfl) (hg : oi.guard = none := by rfl) : wpAnyP P md ops Q S p (fuel + 1) (bz n m) a w := by
 unfold ckO at hc
 simp only [Bool.and_eq_true, decide_eq_true_eq] at hc
 exact P_oneS i _ hi hc.1 hc.2 hg h
theorem Q_2S (i j m1 m2 : Nat) {oj : Oper} (hi : ops[i]? = some oi) (hj : ops[j]? = some oj)
 (h1 : ∀ K : Act → World → Prop, (∀ a' w', S w' → wpAnyP P md ops Q S p fuel (bz n m1) a' w' → K a' w') → oi.wp P a w K Q)
 (h2 : ∀ K : Act → World → Prop, (∀ a' w', S w' → wpAnyP P md ops Q S p fuel (bz n m2) a' w' → K a' w') → oj.wp P a w K Q)
 (e1 : (bz n m).setIfInBounds i true = bz n m1 := by kernel_rfl) (e2 : (bz n m).setIfInBounds j true = bz n m2 := by kernel_rfl) (hr : Region.ready md ops (bz n m) = [i, j] := by kernel_rfl) (gi : oi.guard = none := by rfl) (gj : oj.guard = none := by rfl) : wpAnyP P md ops Q S p (fuel + 1) (bz n m) a w :=
 P_twoS i j _ _ hi hj e1 e2 hr gi gj h1 h2
theorem Q_end (h : Q .normal a w) (hr : Region.ready md ops (bz n m) = [] := by kernel_rfl) : wpAnyP P md ops (noPanic Q) S p fuel (bz n m) a w := P_done hr (noPanic_normal h) fuel
end
def Ob.eT (o : Ob) (i : Nat) : Int := ext (o.tot i - gi o.s i - gi o.a i)
def Ob.bT (o : Ob) (i : Nat) : Int := if o.tot i < 0 then 1 else 0
section
variable {w W W' : World} {bf bg N bA cap b6 b12 B0 : Nat} {o : Ob} {vs vs' : List Value} {r1 r2 r3 q1 q2 q3 : RowD}
end
section
variable {W : World} {B0 i gx : Nat} {v : Int} {A : Option Addr} {c : Nat} {r2 r3 : RowD} {op : Oper} {ts : Array Value} {ds : List Deferred} {K : Act → World → Prop} {Q : Exit → Act → World → Prop} {o : Ob}
end
def inW (bs : List Bool) : List Bool := bs ++ [tu (fin bs) 0, tu (fin bs) 1, tu (fin bs) 2]
def outW (bs : List Bool) : List Bool := parL s0 bs ++ [tz (fin bs) 0, tz (fin bs) 1, tz (fin bs) 2]
def bq (b : Bool) : Nat := if b then 1 else 0
theorem inW_len (bs : List Bool) : (inW bs).length = bs.length + 3 := by simp [inW]
/-! ### the two decoders in plain Lean -/
theorem gN_val (o : Ob) (i bit : Nat) (f g : List Int) (hf : ∀ b ∈ brT, UU ≤ gi f b.fr) (hg : ∀ b ∈ brT, UU ≤ gi g b.tt) : gN o i bit f g 16 = o.val i bit f g := by
 have key : ∀ (l : List Br), (∀ b ∈ l, b ∈ brT) → ∀ best, UU ≤ best → l.foldl (fun best x => max best (o.vX i bit f g x)) best = l.foldl (o.vB i bit f g) best ∧ True := by
  intro l
  induction l with
  | nil => intro _ best _; exact ⟨rfl, trivial⟩
  | cons b l ih =>
    intro hl best hb
    have hb1 := hf b (hl b (by simp))
    have hb2 := hg b (hl b (by simp))
    have e : max best (o.vX i bit f g b) = o.vB i bit f g best b := by
     unfold Ob.vX Ob.vB
     by_cases h1 : b.bt = bit ∧ gi f b.fr ≠ UU ∧ gi g b.tt ≠ UU
     · rw [if_pos h1, if_pos ⟨h1.1, by omega, by omega⟩]
     · rw [if_neg h1, if_neg (fun h => h1 ⟨h.1, by omega, by omega⟩)]; omega
    simp only [List.foldl_cons]
    rw [e]
    refine ih (fun c hc => hl c (by simp [hc])) _ ?_
    rw [← e]; omega
 have e16 : brT.take 16 = brT := rfl
 unfold gN Ob.val
 rw [e16]
 exact (key brT (fun _ h => h) UU (Int.le_refl _)).1
theorem met_ge {B : Int} {m : List Int} (h : Met B m) (hB : B ≤ 1125899906842624) (j : Nat) (hj : j < 8) : UU ≤ gi m j := by
 have := h.bd j hj
 rw [UU_eq] at *
 omega
theorem tN_tot {o : Ob} (h : o.ok) (i : Nat) (hi : i < o.s.length) : o.tN i = o.tot i := by
 have hl := h.2.1
 have hl2 := h.2.2.1
 have hf := f_met h i (by omega)
 have hb := bd_met h (o.s.length - (i + 1)) (by omega)
 unfold Ob.tN Ob.tot
 have q : ∀ bit, gN o i bit (o.f i) (o.b (i + 1)) 16 = o.val i bit (o.f i) (o.b (i + 1)) := fun bit =>
  gN_val o i bit _ _ (fun b hb' => met_ge hf (by omega) _ (br_bd b hb').1) (fun b hb' => met_ge hb (by omega) _ (br_bd b hb').2.2.2)
 rw [q, q]
theorem rows_same {o : Ob} (h : o.ok) : (List.range o.a.length).map o.tN = (List.range o.a.length).map o.tot ∧ (List.range o.a.length).map o.eN = (List.range o.a.length).map o.eT ∧ (List.range o.a.length).map o.bN = (List.range o.a.length).map o.bT := by
 have hl2 := h.2.2.1
 have hlt : ∀ i, i ∈ List.range o.a.length → i < o.s.length := fun i hi => by
  have : i < o.a.length := by simpa using hi
  omega
 refine ⟨List.map_congr_left fun i hi => tN_tot h i (hlt i hi), List.map_congr_left fun i hi => ?_, List.map_congr_left fun i hi => ?_⟩
 · unfold Ob.eN Ob.eT; rw [tN_tot h i (hlt i hi)]
 · unfold Ob.bN Ob.bT; rw [tN_tot h i (hlt i hi)]
open Classical in
noncomputable def Ob.dE (o : Ob) : List Int := if o.ok then (List.range o.a.length).map o.eT else []
open Classical in
noncomputable def Ob.dB (o : Ob) : List Int := if o.ok then (List.range o.a.length).map o.bT else []
/-! ### the examples -/
theorem eq_of_le {a b : Int} (h : ∀ v, a ≤ v ↔ b ≤ v) : a = b := Int.le_antisymm ((h b).2 (Int.le_refl _)) ((h a).1 (Int.le_refl _))
theorem foldF_le (o : Ob) (i : Nat) (m : List Int) (t : Nat) (ht : t < 8) (v : Int) : ∀ (l : List Br) (nx : List Int), (∀ b ∈ l, b ∈ brT) → nx.length = 8 →
 (gi (l.foldl (o.fB i m) nx) t ≤ v ↔ gi nx t ≤ v ∧ ∀ b ∈ l, b.tt = t → o.allow i b = true → UU < gi m b.fr → gi m b.fr + o.term i b ≤ v)
 | [], nx, _, _ => by simp
 | b :: l, nx, hb, hn => by
   have hb1 := br_bd b (hb b (by simp))
   have hlen : (o.fB i m nx b).length = 8 := by unfold Ob.fB; split <;> simp [hn]
   rw [List.foldl_cons, foldF_le o i m t ht v l _ (fun c hc => hb c (by simp [hc])) hlen]
   have key : gi (o.fB i m nx b) t ≤ v ↔ gi nx t ≤ v ∧ (b.tt = t → o.allow i b = true → UU < gi m b.fr → gi m b.fr + o.term i b ≤ v) := by
    unfold Ob.fB
    by_cases hc : o.allow i b = true ∧ UU < gi m b.fr
    · rw [if_pos hc, gi_set' _ _ _ _ (by omega)]
      by_cases e : b.tt = t
      · rw [if_pos e, e]
        constructor
        · intro h; exact ⟨by omega, fun _ _ _ => by omega⟩
        · rintro ⟨h1, h2⟩; have := h2 rfl hc.1 hc.2; omega
      · rw [if_neg e]
        exact ⟨fun h => ⟨h, fun e' => absurd e' e⟩, fun h => h.1⟩
    · rw [if_neg hc]
      exact ⟨fun h => ⟨h, fun _ h1 h2 => absurd ⟨h1, h2⟩ hc⟩, fun h => h.1⟩
   rw [key]
   simp only [List.mem_cons, forall_eq_or_imp, and_assoc]
theorem foldB_le (o : Ob) (i : Nat) (m : List Int) (t : Nat) (ht : t < 8) (v : Int) : ∀ (l : List Br) (nx : List Int), (∀ b ∈ l, b ∈ brT) → nx.length = 8 →
 (gi (l.foldl (o.bB i m) nx) t ≤ v ↔ gi nx t ≤ v ∧ ∀ b ∈ l, b.fr = t → o.allow i b = true → UU < gi m b.tt → gi m b.tt + o.term i b ≤ v)
 | [], nx, _, _ => by simp
 | b :: l, nx, hb, hn => by
   have hb1 := br_bd b (hb b (by simp))
   have hlen : (o.bB i m nx b).length = 8 := by unfold Ob.bB; split <;> simp [hn]
   rw [List.foldl_cons, foldB_le o i m t ht v l _ (fun c hc => hb c (by simp [hc])) hlen]
   have key : gi (o.bB i m nx b) t ≤ v ↔ gi nx t ≤ v ∧ (b.fr = t → o.allow i b = true → UU < gi m b.tt → gi m b.tt + o.term i b ≤ v) := by
    unfold Ob.bB
    by_cases hc : o.allow i b = true ∧ UU < gi m b.tt
    · rw [if_pos hc, gi_set' _ _ _ _ (by omega)]
      by_cases e : b.fr = t
      · rw [if_pos e, e]
        constructor
        · intro h; exact ⟨by omega, fun _ _ _ => by omega⟩
        · rintro ⟨h1, h2⟩; have := h2 rfl hc.1 hc.2; omega
      · rw [if_neg e]
        exact ⟨fun h => ⟨h, fun e' => absurd e' e⟩, fun h => h.1⟩
    · rw [if_neg hc]
      exact ⟨fun h => ⟨h, fun _ h1 h2 => absurd ⟨h1, h2⟩ hc⟩, fun h => h.1⟩
   rw [key]
   simp only [List.mem_cons, forall_eq_or_imp, and_assoc]
theorem foldV_le (o : Ob) (i bit : Nat) (f g : List Int) (v : Int) : ∀ (l : List Br) (best : Int),
 (l.foldl (o.vB i bit f g) best ≤ v ↔ best ≤ v ∧ ∀ b ∈ l, b.bt = bit → UU < gi f b.fr → UU < gi g b.tt → gi f b.fr + o.term i b + gi g b.tt ≤ v)
 | [], best => by simp
 | b :: l, best => by
   rw [List.foldl_cons, foldV_le o i bit f g v l]
   have key : o.vB i bit f g best b ≤ v ↔ best ≤ v ∧ (b.bt = bit → UU < gi f b.fr → UU < gi g b.tt → gi f b.fr + o.term i b + gi g b.tt ≤ v) := by
    unfold Ob.vB
    by_cases hc : b.bt = bit ∧ UU < gi f b.fr ∧ UU < gi g b.tt
    · rw [if_pos hc]
      constructor
      · intro h; exact ⟨by omega, fun _ _ _ => by omega⟩
      · rintro ⟨h1, h2⟩; have := h2 hc.1 hc.2.1 hc.2.2; omega
    · rw [if_neg hc]
      exact ⟨fun h => ⟨h, fun h1 h2 h3 => absurd ⟨h1, h2, h3⟩ hc⟩, fun h => h.1⟩
   rw [key]
   simp only [List.mem_cons, forall_eq_or_imp, and_assoc]
theorem fwd_le (o : Ob) (i : Nat) (m : List Int) (t : Nat) (ht : t < 8) (v : Int) : gi (o.fwd i m) t ≤ v ↔ UU ≤ v ∧ ∀ b ∈ brT, b.tt = t → o.allow i b = true → UU < gi m b.fr → gi m b.fr + o.term i b ≤ v := by
 unfold Ob.fwd
 rw [foldF_le o i m t ht v brT noneL (fun _ h => h) (by simp [noneL]), gi_noneL t ht]
theorem bwd_le (o : Ob) (i : Nat) (m : List Int) (t : Nat) (ht : t < 8) (v : Int) : gi (o.bwd i m) t ≤ v ↔ UU ≤ v ∧ ∀ b ∈ brT, b.fr = t → o.allow i b = true → UU < gi m b.tt → gi m b.tt + o.term i b ≤ v := by
 unfold Ob.bwd
 rw [foldB_le o i m t ht v brT noneL (fun _ h => h) (by simp [noneL]), gi_noneL t ht]
theorem val_le (o : Ob) (i bit : Nat) (f g : List Int) (v : Int) : o.val i bit f g ≤ v ↔ UU ≤ v ∧ ∀ b ∈ brT, b.bt = bit → UU < gi f b.fr → UU < gi g b.tt → gi f b.fr + o.term i b + gi g b.tt ≤ v := by
 unfold Ob.val
 exact foldV_le o i bit f g v brT UU
/-! ### turning -/
def bx (c b : Br) : Br := ⟨b.fr ^^^ c.fr, b.bt ^^^ c.bt, b.pr ^^^ c.pr, b.tt ^^^ c.tt⟩
theorem bx_mem : ∀ c ∈ brT, ∀ b ∈ brT, bx c b ∈ brT ∧ bx c (bx c b) = b ∧ ((bx c b).bt = tailBit (bx c b).fr ↔ (c.bt = tailBit c.fr ↔ b.bt = tailBit b.fr)) := by decide
theorem x8 : ∀ a, a < 8 → ∀ b, b < 8 → a ^^^ b < 8 ∧ a ^^^ b ^^^ b = a := by decide
theorem x8_inj {a b c : Nat} (ha : a < 8) (hb : b < 8) (hc : c < 8) : a ^^^ c = b ^^^ c ↔ a = b :=
 ⟨fun h => by rw [← (x8 a ha c hc).2, ← (x8 b hb c hc).2, h], fun h => by rw [h]⟩
theorem all_bx {c : Br} (hc : c ∈ brT) {P : Br → Prop} : (∀ b ∈ brT, P (bx c b)) ↔ ∀ b ∈ brT, P b :=
 ⟨fun h b hb => by have := h _ (bx_mem c hc b hb).1; rwa [(bx_mem c hc b hb).2.1] at this, fun h b hb => h _ (bx_mem c hc b hb).1⟩
theorem sg_x : ∀ a, a < 2 → ∀ b, b < 2 → (1 - 2 * ((a ^^^ b : Nat) : Int)) = (1 - 2 * (a : Int)) * (1 - 2 * (b : Int)) ∧ (1 - 2 * (b : Int)) * (1 - 2 * (b : Int)) = 1 := by decide
structure Tn (o o' : Ob) (c : Nat → Br) : Prop where
 n : o'.s.length = o.s.length
 k : o'.k = o.k
 mem : ∀ i, i < o.s.length → c i ∈ brT
 st : ∀ i, i < o.s.length → (c i).tt = (c (i + 1)).fr
 s0 : (c 0).fr = 0
 sn : (c o.s.length).fr = 0
 tl : ∀ i, i < o.s.length → o.k ≤ i → (c i).bt = tailBit (c i).fr
 x : ∀ i, i < o.s.length → o'.x i = o.x i * (1 - 2 * ((c i).bt : Int))
 p : ∀ i, i < o.s.length → gi o'.p i = gi o.p i * (1 - 2 * ((c i).pr : Int))
theorem Tn.term {o o' : Ob} {c : Nat → Br} (h : Tn o o' c) (i : Nat) (hi : i < o.s.length) (b : Br) (hb : b ∈ brT) : o'.term i b = o.term i (bx (c i) b) := by
 obtain ⟨-, b1, b2, -⟩ := br_bd b hb
 obtain ⟨-, c1, c2, -⟩ := br_bd _ (h.mem i hi)
 unfold Ob.term bx
 rw [h.x i hi, h.p i hi]
 dsimp only
 rw [(sg_x _ b1 _ c1).1, (sg_x _ b2 _ c2).1]
 rw [Int.mul_assoc, Int.mul_assoc, Int.mul_comm (1 - 2 * ((c i).bt : Int)), Int.mul_comm (1 - 2 * ((c i).pr : Int))]
theorem Tn.allow {o o' : Ob} {c : Nat → Br} (h : Tn o o' c) (i : Nat) (hi : i < o.s.length) (b : Br) (hb : b ∈ brT) : o'.allow i b = o.allow i (bx (c i) b) := by
 unfold Ob.allow
 rw [h.k]
 by_cases hk : i < o.k
 · simp [hk]
 · have h1 := (bx_mem _ (h.mem i hi) b hb).2.2
   have h2 := h.tl i hi (by omega)
   simp only [h2, true_iff] at h1
   have h3 : decide ((bx (c i) b).bt = tailBit (bx (c i) b).fr) = decide (b.bt = tailBit b.fr) := by simp only [h1]
   rw [h3]
theorem Tn.fwd {o o' : Ob} {c : Nat → Br} (h : Tn o o' c) (i : Nat) (hi : i < o.s.length) (m m' : List Int) (hm : ∀ t, t < 8 → gi m' t = gi m (t ^^^ (c i).fr)) :
 ∀ t, t < 8 → gi (o'.fwd i m') t = gi (o.fwd i m) (t ^^^ (c (i + 1)).fr) := by
 intro t ht
 have hc := h.mem i hi
 have hc4 := (br_bd _ hc).2.2.2
 rw [← h.st i hi]
 refine eq_of_le fun v => ?_
 rw [fwd_le _ _ _ _ ht, fwd_le _ _ _ _ (x8 _ ht _ hc4).1]
 refine and_congr_right fun _ => ?_
 refine Iff.trans ?_ (all_bx hc)
 refine forall₂_congr fun b hb => ?_
 have b4 := br_bd b hb
 rw [h.term i hi b hb, h.allow i hi b hb, hm _ b4.1]
 show _ ↔ (b.tt ^^^ (c i).tt = t ^^^ (c i).tt → _)
 rw [x8_inj b4.2.2.2 ht hc4]
 rfl
theorem Tn.bwd {o o' : Ob} {c : Nat → Br} (h : Tn o o' c) (i : Nat) (hi : i < o.s.length) (m m' : List Int) (hm : ∀ t, t < 8 → gi m' t = gi m (t ^^^ (c (i + 1)).fr)) :
 ∀ t, t < 8 → gi (o'.bwd i m') t = gi (o.bwd i m) (t ^^^ (c i).fr) := by
 intro t ht
 have hc := h.mem i hi
 have hc1 := (br_bd _ hc).1
 rw [← h.st i hi] at hm
 refine eq_of_le fun v => ?_
 rw [bwd_le _ _ _ _ ht, bwd_le _ _ _ _ (x8 _ ht _ hc1).1]
 refine and_congr_right fun _ => ?_
 refine Iff.trans ?_ (all_bx hc)
 refine forall₂_congr fun b hb => ?_
 have b4 := br_bd b hb
 rw [h.term i hi b hb, h.allow i hi b hb, hm _ b4.2.2.2]
 show _ ↔ (b.fr ^^^ (c i).fr = t ^^^ (c i).fr → _)
 rw [x8_inj b4.1 ht hc1]
 rfl
theorem x2_inj : ∀ a, a < 2 → ∀ b, b < 2 → ∀ c, c < 2 → (a ^^^ c = b ^^^ c ↔ a = b) := by decide
theorem Tn.val {o o' : Ob} {c : Nat → Br} (h : Tn o o' c) (i : Nat) (hi : i < o.s.length) (bit : Nat) (hbit : bit < 2) (f f' g g' : List Int) (hf : ∀ t, t < 8 → gi f' t = gi f (t ^^^ (c i).fr)) (hg : ∀ t, t < 8 → gi g' t = gi g (t ^^^ (c (i + 1)).fr)) :
 o'.val i bit f' g' = o.val i (bit ^^^ (c i).bt) f g := by
 have hc := h.mem i hi
 rw [← h.st i hi] at hg
 refine eq_of_le fun v => ?_
 rw [val_le, val_le]
 refine and_congr_right fun _ => ?_
 refine Iff.trans ?_ (all_bx hc)
 refine forall₂_congr fun b hb => ?_
 have b4 := br_bd b hb
 rw [h.term i hi b hb, hf _ b4.1, hg _ b4.2.2.2]
 show _ ↔ (b.bt ^^^ (c i).bt = bit ^^^ (c i).bt → _)
 rw [x2_inj _ b4.2.1 _ hbit _ (br_bd _ hc).2.1]
 rfl
theorem Tn.f {o o' : Ob} {c : Nat → Br} (h : Tn o o' c) : ∀ i, i ≤ o.s.length → ∀ t, t < 8 → gi (o'.f i) t = gi (o.f i) (t ^^^ (c i).fr)
 | 0, _, t, ht => by rw [h.s0, Nat.xor_zero]; rfl
 | i + 1, hi, t, ht => h.fwd i (by omega) _ _ (h.f i (by omega)) t ht
theorem Tn.bd {o o' : Ob} {c : Nat → Br} (h : Tn o o' c) : ∀ d, d ≤ o.s.length → ∀ t, t < 8 → gi (o'.bd d) t = gi (o.bd d) (t ^^^ (c (o.s.length - d)).fr)
 | 0, _, t, ht => by rw [Nat.sub_zero, h.sn, Nat.xor_zero]; rfl
 | d + 1, hd, t, ht => by
   show gi (o'.bwd (o'.s.length - 1 - d) (o'.bd d)) t = gi (o.bwd (o.s.length - 1 - d) (o.bd d)) _
   have e1 : o.s.length - 1 - d = o.s.length - (d + 1) := by omega
   have e2 : o.s.length - (d + 1) + 1 = o.s.length - d := by omega
   rw [h.n, e1]
   exact h.bwd _ (by omega) _ _ (by rw [e2]; exact h.bd d (by omega)) t ht
theorem Tn.tot {o o' : Ob} {c : Nat → Br} (h : Tn o o' c) (i : Nat) (hi : i < o.s.length) : o'.tot i = o.tot i * (1 - 2 * ((c i).bt : Int)) := by
 have hb := h.bd (o.s.length - (i + 1)) (by omega)
 have e : o.s.length - (o.s.length - (i + 1)) = i + 1 := by omega
 rw [e] at hb
 unfold Ob.tot Ob.b
 rw [h.n]
 have q : ∀ bit, bit < 2 → _ := fun bit hb2 => h.val i hi bit hb2 _ _ _ _ (h.f i (by omega)) hb
 rw [q 0 (by decide), q 1 (by decide)]
 rcases (by have := (br_bd _ (h.mem i hi)).2.1; omega : (c i).bt = 0 ∨ (c i).bt = 1) with e | e <;> rw [e]
 · simp
 · show (Int.tdiv (o.val i 1 _ _ - o.val i 0 _ _) 2) = Int.tdiv (o.val i 0 _ _ - o.val i 1 _ _) 2 * (1 - 2 * 1)
   rw [show (1 - 2 * 1 : Int) = -1 from rfl, Int.mul_neg_one, ← Int.neg_tdiv, Int.neg_sub]
def flp (xs : List Int) (bs : List Bool) : List Int := (List.range xs.length).map (fun i => if bs.getD i false = true then -gi xs i else gi xs i)
theorem flp_len (xs : List Int) (bs : List Bool) : (flp xs bs).length = xs.length := by simp [flp]
theorem gi_range {n i : Nat} (f : Nat → Int) (h : i < n) : gi ((List.range n).map f) i = f i := by simp [gi, List.getD, h]
theorem gi_over {xs : List Int} {i : Nat} (h : xs.length ≤ i) : gi xs i = 0 := by simp [gi, List.getD, h]
theorem gi_flp (xs : List Int) (bs : List Bool) (i : Nat) : gi (flp xs bs) i = gi xs i * (1 - 2 * (bq (bs.getD i false) : Int)) := by
 rcases Nat.lt_or_ge i xs.length with h | h
 · unfold flp
   rw [gi_range _ h]
   cases bs.getD i false <;> simp [bq]
 · rw [gi_over h, gi_over (by rw [flp_len]; exact h), Int.zero_mul]
def sn (s : St3) : Nat := 4 * bq s.1 + 2 * bq s.2.1 + bq s.2.2
def stW (bs : List Bool) (i : Nat) : St3 := ((inW bs).take i).foldl stp s0
def cW (bs : List Bool) (i : Nat) : Br := ⟨sn (stW bs i), bq ((inW bs).getD i false), bq ((outW bs).getD i false), sn (stW bs (i + 1))⟩
theorem br_stp : ∀ (s : St3) (x : Bool), (⟨sn s, bq x, bq (par s x), sn (stp s x)⟩ : Br) ∈ brT := by
 rintro ⟨a, b, c⟩ x; cases a <;> cases b <;> cases c <;> cases x <;> decide
theorem parL_app (l m : List Bool) : ∀ s, parL s (l ++ m) = parL s l ++ parL (l.foldl stp s) m := by
 induction l with
 | nil => intro s; rfl
 | cons x l ih => intro s; simp [parL, ih]
theorem parL_get (l : List Bool) : ∀ (s : St3) (i : Nat), i < l.length → (parL s l).getD i false = par ((l.take i).foldl stp s) (l.getD i false) := by
 induction l with
 | nil => intro s i h; simp at h
 | cons x l ih =>
   intro s i h
   cases i with
   | zero => simp [parL]
   | succ i =>
     have := ih (stp s x) i (by simpa using h)
     simpa [parL] using this
theorem tail_all : ∀ s : St3, parL s [tu s 0, tu s 1, tu s 2] = [tz s 0, tz s 1, tz s 2] ∧ [tu s 0, tu s 1, tu s 2].foldl stp s = s0 ∧
 bq (tu s 0) = tailBit (sn s) ∧ bq (tu s 1) = tailBit (sn ([tu s 0].foldl stp s)) ∧ bq (tu s 2) = tailBit (sn ([tu s 0, tu s 1].foldl stp s)) := by
 rintro ⟨a, b, c⟩; cases a <;> cases b <;> cases c <;> decide
theorem outW_eq (bs : List Bool) : outW bs = parL s0 (inW bs) := by
 unfold outW inW
 rw [parL_app]
 congr 1
 exact (tail_all (fin bs)).1.symm
theorem stW_succ (bs : List Bool) (i : Nat) (hi : i < bs.length + 3) : stW bs (i + 1) = stp (stW bs i) ((inW bs).getD i false) := by
 have hl : i < (inW bs).length := by rw [inW_len]; exact hi
 unfold stW
 rw [List.take_succ_eq_append_getElem hl, List.foldl_append]
 simp [List.getD, hl]
theorem cW_mem (bs : List Bool) (i : Nat) (hi : i < bs.length + 3) : cW bs i ∈ brT := by
 unfold cW
 rw [stW_succ bs i hi, outW_eq, parL_get _ _ _ (by rw [inW_len]; exact hi)]
 exact br_stp _ _
theorem cW_end (bs : List Bool) : (cW bs (bs.length + 3)).fr = 0 := by
 show sn (stW bs (bs.length + 3)) = 0
 unfold stW
 rw [List.take_of_length_le (by rw [inW_len]; omega)]
 unfold inW
 rw [List.foldl_append]
 have := (tail_all (fin bs)).2.1
 unfold fin at this ⊢
 rw [this]
 rfl
theorem inW_lo (bs : List Bool) (i : Nat) (h : i < bs.length) : (inW bs).getD i false = bs.getD i false := by
 unfold inW
 simp [List.getD, List.getElem?_append_left h]
theorem cW_tail (bs : List Bool) (i : Nat) (hi : i < bs.length + 3) (hk : bs.length ≤ i) : (cW bs i).bt = tailBit (cW bs i).fr := by
 obtain ⟨j, rfl⟩ : ∃ j, i = bs.length + j := ⟨i - bs.length, by omega⟩
 show bq ((inW bs).getD (bs.length + j) false) = tailBit (sn (stW bs (bs.length + j)))
 have e1 : (inW bs).getD (bs.length + j) false = [tu (fin bs) 0, tu (fin bs) 1, tu (fin bs) 2].getD j false := by
  unfold inW
  rw [List.getD_eq_getElem?_getD, List.getD_eq_getElem?_getD, List.getElem?_append_right (by omega), Nat.add_sub_cancel_left]
 have e2 : stW bs (bs.length + j) = ([tu (fin bs) 0, tu (fin bs) 1, tu (fin bs) 2].take j).foldl stp (fin bs) := by
  unfold stW inW
  rw [List.take_append, List.foldl_append, List.take_of_length_le (by omega)]
  unfold fin
  congr 2
  omega
 obtain ⟨-, -, t0, t1, t2⟩ := tail_all (fin bs)
 rw [e1, e2]
 rcases (by omega : j = 0 ∨ j = 1 ∨ j = 2) with rfl | rfl | rfl
 · exact t0
 · exact t1
 · exact t2
def Ob.turn (o : Ob) (bs : List Bool) : Ob := ⟨flp o.s (inW bs), flp o.p (outW bs), flp o.a bs⟩
theorem turn_tn {o : Ob} (h : o.ok) {bs : List Bool} (hb : bs.length = o.a.length) : Tn o (o.turn bs) (cW bs) := by
 have hn := h.2.2.1
 refine ⟨flp_len _ _, flp_len _ _, fun i hi => cW_mem bs i (by omega), fun i hi => rfl, rfl, ?_, fun i hi hk => cW_tail bs i (by omega) (by rw [hb]; exact hk), fun i hi => ?_, fun i hi => gi_flp _ _ i⟩
 · rw [hn, ← hb]; exact cW_end bs
 · unfold Ob.x Ob.turn Ob.k
   dsimp only
   rw [flp_len, gi_flp, gi_flp]
   show _ = _ * (1 - 2 * (bq ((inW bs).getD i false) : Int))
   by_cases hk : i < o.a.length
   · rw [if_pos hk, if_pos hk, inW_lo bs i (by omega), Int.add_mul]
   · rw [if_neg hk, if_neg hk]
theorem flp_bd {xs : List Int} (h : ∀ v ∈ xs, -127 ≤ v ∧ v ≤ 127) (bs : List Bool) : ∀ v ∈ flp xs bs, -127 ≤ v ∧ v ≤ 127 := by
 intro v hv
 obtain ⟨i, hi, rfl⟩ := List.mem_map.1 hv
 have hi : i < xs.length := by simpa using hi
 have := h (gi xs i) (by simp [gi, List.getD, hi])
 split <;> omega
theorem turn_ok {o : Ob} (h : o.ok) (bs : List Bool) : (o.turn bs).ok := by
 obtain ⟨h1, h2, h3, h4, h5, h6, h7⟩ := h
 refine ⟨?_, ?_, ?_, ?_, flp_bd h5 _, flp_bd h6 _, flp_bd h7 _⟩ <;> simp only [Ob.turn, flp_len] <;> assumption
theorem ext_neg (v : Int) : ext (-v) = -ext v := by
 unfold ext
 rw [Int.mul_neg, Int.neg_tdiv]
 generalize (3 * v).tdiv 4 = u
 omega
theorem turn_dE {o : Ob} (h : o.ok) {bs : List Bool} (hb : bs.length = o.a.length) : (o.turn bs).dE = flp o.dE bs := by
 have hn := h.2.2.1
 have ht := turn_tn h hb
 unfold Ob.dE
 rw [if_pos h, if_pos (turn_ok h bs)]
 refine ext_gi (by simp [flp_len, Ob.turn]) fun j hj => ?_
 have hj : j < o.a.length := by simpa [flp_len, Ob.turn] using hj
 rw [gi_flp, gi_range _ hj, gi_range _ (by simpa [flp_len, Ob.turn] using hj)]
 unfold Ob.eT
 rw [ht.tot j (by omega)]
 show ext (_ * (1 - 2 * (bq ((inW bs).getD j false) : Int)) - gi (flp o.s (inW bs)) j - gi (flp o.a bs) j) = _
 rw [gi_flp, gi_flp, inW_lo bs j (by omega)]
 cases bs.getD j false
 · simp [bq]
 · show ext (_ * (1 - 2 * 1) - _ * (1 - 2 * 1) - _ * (1 - 2 * 1)) = _ * (1 - 2 * 1)
   rw [show (1 - 2 * 1 : Int) = -1 from rfl]
   simp only [Int.mul_neg_one]
   rw [← ext_neg]
   congr 1
   omega
/-! ### the theorem of the stage -/
def Ob.Z (o : Ob) : Nat → Int
 | 0 => 0
 | i + 1 => o.Z i + o.x i + gi o.p i
theorem b0_mem : (⟨0, 0, 0, 0⟩ : Br) ∈ brT := by decide
theorem allow0 (o : Ob) (i : Nat) : o.allow i ⟨0, 0, 0, 0⟩ = true := by unfold Ob.allow; simp [tailBit]
theorem term0 (o : Ob) (i : Nat) : o.term i ⟨0, 0, 0, 0⟩ = o.x i + gi o.p i := by unfold Ob.term; simp
end Go.Proofs.YtkdfefpnhaebfaaGreat
