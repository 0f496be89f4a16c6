/-
  Encode and the reference's Encode, the walk of the statement on transmissions, in one. Condition: see the single theorems.
-/
import Derived.Test.YtcbbkflnenkpgaaGreatSy
import Derived.Test.YtcbbkflnenkpgaaGreatWx
import Derived.Test.YtcbbkflnenkpgaaGreatWc
import Derived.Test.YtcbbkflnenkpgaaGreatK
import Derived.Lib.SmallJoins
namespace Go.Proofs.YtcbbkflnenkpgaaGreat
open Go.RowKit
set_option linter.unusedVariables false
/-- what has run, told by a number -/
def bz (n m : Nat) : Array Bool := ((List.range n).map m.testBit).toArray
theorem s0 {α : Type} {l : List α} {i : Nat} {a : α} : l.toArray.setIfInBounds i a = (l.set i a).toArray := List.setIfInBounds_toArray _ _ _
theorem s1 {α : Type} {x a : α} {xs : List α} : (x :: xs).set 0 a = a :: xs := List.set_cons_zero
theorem s2 {α : Type} {x a : α} {xs : List α} {n : Nat} : (x :: xs).set (n + 1) a = x :: xs.set n a := List.set_cons_succ
def ckI (md : Region.Mode) (ops : Array Oper) (n m m' i : Nat) : Bool := decide ((bz n m).setIfInBounds i true = bz n m') && (Region.ready md ops (bz n m)).contains i
def ckD (ops : Array Oper) (i d : Nat) : Bool := match ops[i]? with
  | some o => decide (o.dst = some d)
  | none => false
def ckW (md : Region.Mode) (ops : Array Oper) (p n m m' i d : Nat) : Bool := ckI md ops n m m' i && ckD ops i d && Region.noSelect ops && Region.free md ops (bz n m) i && decide (p ≠ i)
def ckT (md : Region.Mode) (ops : Array Oper) (p n m m' i d : Nat) (xs : List Nat) : Bool := ckW md ops p n m m' i d && pathB md ops i p xs && closedB md ops (bz n m) && decide ((bz n m).getD p true = false)
def ckO (md : Region.Mode) (ops : Array Oper) (n m m' i : Nat) : Bool := decide ((bz n m).setIfInBounds i true = bz n m') && decide (Region.ready md ops (bz n m) = [i])
section
variable {P : Program} {ops : Array Oper} {Q : Exit → Act → World → Prop} {md : Region.Mode} {S : World → Prop} {p n m fuel : Nat} {ts : Array Value} {ds : List Deferred} {w : World} {oi : Oper} {a : Act}
theorem ckD_of {i d : Nat} (h : ckD ops i d = true) (hi : ops[i]? = some oi) : oi.dst = some d := by
  unfold ckD at h; rw [hi] at h; exact of_decide_eq_true h
theorem ckW_of {m' i d : Nat} (h : ckW md ops p n m m' i d = true) (hi : ops[i]? = some oi) : ((bz n m).setIfInBounds i true = bz n m' ∧ (Region.ready md ops (bz n m)).contains i = true) ∧ oi.dst = some d ∧ Region.noSelect ops = true ∧ Region.free md ops (bz n m) i = true ∧ p ≠ i := by
  unfold ckW at h
  simp only [Bool.and_eq_true, decide_eq_true_eq, ckI] at h
  obtain ⟨⟨⟨⟨⟨h1, h2⟩, h3⟩, h4⟩, h5⟩, h6⟩ := h
  exact ⟨⟨h1, h2⟩, ckD_of h3 hi, h4, h5, h6⟩
theorem Q_start {id : Nat} (S : World → Prop) (p n : Nat) (h : wpAnyP P .any ops (noPanic Q) S p n (bz n 0) a w.drew) (hn : ops.size = n := by kernel_rfl) (hl : Array.replicate n false = bz n 0 := by kernel_rfl) (hm : P.follows .mixedOrders = true := by kernel_rfl) : (Code.region id ops true).wp P Q a w :=
  wp_nopanic (P_start S p n (bz n 0) hn hl hm h)
/-- an operation that asks nothing of the world -/
theorem Q_W (i d m' : Nat) (v : Value) (hi : ops[i]? = some oi) (hS : S w) (h : wpAnyP P md ops (noPanic Q) S p fuel (bz n m') ⟨ts.setIfInBounds d v, ds⟩ w)
    (hc : ckW md ops p n m m' i d = true := by kernel_rfl) (hy : YieldsIf P ops (fun _ => True) oi v ⟨ts, ds⟩ := by exact .inl ⟨by rfl, fun _ _ => by go_simp⟩) : wpAnyP P md ops (noPanic Q) S p (fuel + 1) (bz n m) ⟨ts, ds⟩ w := by
  obtain ⟨⟨h1, h2⟩, h3, h4, h5, h6⟩ := ckW_of hc hi
  exact P_takeW i d v _ hi h3 h1 h4 h5 h2 h6 (fun _ _ _ h => h) hy hS h
/-- a load, taken while a path of operations stands between it and p -/
theorem Q_T (i d m' : Nat) (v : Value) (xs : List Nat) (hi : ops[i]? = some oi) (hS : S w) (hy : YieldsIf P ops S oi v ⟨ts, ds⟩) (h : wpAnyP P md ops (noPanic Q) S p fuel (bz n m') ⟨ts.setIfInBounds d v, ds⟩ w)
    (hc : ckT md ops p n m m' i d xs = true := by kernel_rfl) : wpAnyP P md ops (noPanic Q) S p (fuel + 1) (bz n m) ⟨ts, ds⟩ w := by
  unfold ckT at hc
  simp only [Bool.and_eq_true, decide_eq_true_eq] at hc
  obtain ⟨⟨⟨hc, g1⟩, g2⟩, g3⟩ := hc
  obtain ⟨⟨h1, h2⟩, h3, h4, h5, h6⟩ := ckW_of hc hi
  exact P_takeT i d v _ xs hi h3 h1 h4 h5 h2 g1 g2 g3 h6 (fun _ _ _ h => h) hy hS h
/-- as Q_W, behind p -/
theorem Q_X (i d m' : Nat) (v : Value) (hi : ops[i]? = some oi) (h : wpAnyP P md ops (noPanic Q) S p fuel (bz n m') ⟨ts.setIfInBounds d v, ds⟩ w)
    (hc : ckW md ops p n m m' i d = true := by kernel_rfl) (hp : (bz n m).getD p true = true := by kernel_rfl) (hy : YieldsIf P ops (fun _ => True) oi v ⟨ts, ds⟩ := by exact .inl ⟨by rfl, fun _ _ => by go_simp⟩) : wpAnyP P md ops (noPanic Q) S p (fuel + 1) (bz n m) ⟨ts, ds⟩ w := by
  obtain ⟨⟨h1, h2⟩, h3, h4, h5, h6⟩ := ckW_of hc hi
  exact P_takeX i d v _ hi h3 h1 h4 h5 h2 h6 (fun _ _ _ h => h) hy hp h
/-- the only one that is ready -/
theorem Q_1 (i m' : Nat) (hi : ops[i]? = some oi) (h : ∀ K : Act → World → Prop, (∀ a' w', wpAnyP P md ops Q S p fuel (bz n m') a' w' → K a' w') → oi.wp P a w K Q)
    (hc : ckO md ops n m m' i = true := by kernel_rfl) (hg : Region.wanted oi (yielded ops a.tmps) = true := by rfl) (hp : (bz n m').getD p true = true := by kernel_rfl) : wpAnyP P md ops Q S p (fuel + 1) (bz n m) a w := by
  unfold ckO at hc
  simp only [Bool.and_eq_true, decide_eq_true_eq] at hc
  exact P_oneG i _ hi hc.1 hc.2 hg hp h
theorem Q_1S (i m' : Nat) (hi : ops[i]? = some oi) (h : ∀ K : Act → World → Prop, (∀ a' w', S w' → wpAnyP P md ops Q S p fuel (bz n m') a' w' → K a' w') → oi.wp P a w K Q)
    (hc : ckO md ops n m m' i = true := by kernel_rfl) (hg : oi.guard = none := by rfl) : wpAnyP P md ops Q S p (fuel + 1) (bz n m) a w := by
  unfold ckO at hc
  simp only [Bool.and_eq_true, decide_eq_true_eq] at hc
  exact P_oneS i _ hi hc.1 hc.2 hg h
theorem Q_end (h : Q .normal a w) (hr : Region.ready md ops (bz n m) = [] := by kernel_rfl) : wpAnyP P md ops (noPanic Q) S p fuel (bz n m) a w := P_done hr (noPanic_normal h) fuel
end
end Go.Proofs.YtcbbkflnenkpgaaGreat

namespace Go.Proofs.YtcbbkflnenkpgaaGreat
open Go.RowKit Go.Shelf
set_option linter.unusedVariables false
/-- the selection of e elements -/
def pick (B : List Int) (st N e : Nat) : List Int := (selL B st N (e * N)).take e
theorem selL_big {B : List Int} {st N e : Nat} (hN : N = B.length) (hu : usC B ≠ 0) : e ≤ (selL B st N (e * N)).length := by
  obtain ⟨j, hj, h⟩ := usC_ne.1 hu
  exact selL_many (by omega) h e
theorem pick_of {B : List Int} {st N e T : Nat} (hN : N = B.length) (hu : e = 0 ∨ usC B ≠ 0) (hT : (selL B st N T).length = e) : selL B st N T = pick B st N e := by
  rcases hu with rfl | hu
  · rw [List.length_eq_zero_iff.1 hT]; rfl
  · have h := selL_take (B := B) (st := st) (N := N) (s := T) (t := e * N) (by rw [hT]; exact selL_big hN hu)
    rw [hT] at h
    exact h
theorem pick_len {B : List Int} {st N e : Nat} (hN : N = B.length) (hu : e = 0 ∨ usC B ≠ 0) : (pick B st N e).length = e := by
  unfold pick
  rw [List.length_take]
  rcases hu with rfl | hu
  · exact Nat.zero_min _
  · exact Nat.min_eq_left (selL_big hN hu)
/-- fewer elements are the beginning of more -/
theorem pick_le {B : List Int} {st N e e' : Nat} (hN : N = B.length) (hu : e' = 0 ∨ usC B ≠ 0) (h : e' ≤ e) : pick B st N e' = (pick B st N e).take e' := by
  rcases hu with rfl | hu
  · simp [pick]
  · obtain ⟨r, hr⟩ := selL_pre B st N (e' * N) (e * N) (Nat.mul_le_mul_right _ h)
    unfold pick
    rw [List.take_take, Nat.min_eq_left h, hr, List.take_append_of_le_length (selL_big hN hu)]
/-- the buffer of code block i -/
def bfE (b : Nat) (lim : Int) (i : Nat) : List Int := (bufL (sz b i) (fl b i)).take (szB (sz b i) lim)
theorem uS_bfE (b : Nat) (lim : Int) (i : Nat) : uS b lim i = usC (bfE b lim i) := rfl
theorem bfE_len {b i : Nat} {lim : Int} (hl : 1 ≤ lim) : szB (sz b i) lim = (bfE b lim i).length := by
  have := szB_bd (sz b i) hl
  unfold bfE
  rw [List.length_take, show (bufL (sz b i) (fl b i)).length = 3 * nB (sz b i) from by unfold bufL; exact bufT_len _ _ _]
  omega
/-- the transmitted bits of code word i -/
def rowE (b : Nat) (lim : Int) (rv e i : Nat) (xs : List Int) : List Int := (pick (bfE b lim i) (stS (sz b i) (szB (sz b i) lim) rv) (szB (sz b i) lim) e).map fun p => gi xs p.toNat
/-- the transmitted bits of code word i of the bits xs -/
def rowX (b : Nat) (lim : Int) (C g m rv : Nat) (xs : List Int) (i : Nat) : List Int := rowE b lim rv (shN C g m i) i (Tu.encW ((bD xs).getD i []))
/-- a code block with a share has no usable element -/
def badX (b : Nat) (lim : Int) (C g m : Nat) : Bool := (List.range C).any fun q => decide (uS b lim q = 0 ∧ 0 < shN C g m q)
theorem badX_t {b : Nat} {lim : Int} {C g m : Nat} : badX b lim C g m = true ↔ ∃ q, q < C ∧ bad49 b lim C g m q := by
  unfold badX bad49
  rw [List.any_eq_true]
  constructor
  · rintro ⟨q, hq, h⟩
    exact ⟨q, List.mem_range.1 hq, of_decide_eq_true h⟩
  · rintro ⟨q, hq, h⟩
    exact ⟨q, List.mem_range.2 hq, decide_eq_true h⟩
/-- the error of a transmission with a configuration that is valid and fits -/
def exE (b : Nat) (lim : Int) (C g m : Nat) (xs : List Int) : Int := if bE xs = 0 then if badX b lim C g m = true then 10 else 0 else bE xs
/-- the transmission -/
def exD (b : Nat) (lim : Int) (C g m rv : Nat) (xs : List Int) : List Int := if exE b lim C g m xs = 0 then (List.range C).flatMap (rowX b lim C g m rv xs) else []
theorem cepost_of {xs B : List Int} {st N e : Nat} {W : World} {en : Ending} {w' : World} (hN : N = B.length) (h : MtPost xs B st N e W en w') :
    CePost (usC B = 0 ∧ 0 < e) ((pick B st N e).map fun p => gi xs p.toNat) W en w' := by
  obtain ⟨hB, h⟩ := h
  refine ⟨hB, ?_⟩
  rcases h with ⟨h1, h2, h3⟩ | ⟨h1, A, c, T, h2, h3, h4, h5⟩
  · exact .inl ⟨⟨h2, by omega⟩, h3⟩
  · refine .inr ⟨fun h => by omega, A, e, c, h3, h4, ?_⟩
    rw [pick_of hN h1 h2] at h5
    exact h5
theorem shN_le (C g m i : Nat) (hC : 1 ≤ C) (hi : i < C) : shN C g m i ≤ m * g := by
  have h1 := offS_all C g m hC
  have h2 := offS_le (C := C) (g := g) (m := m) (show i + 1 ≤ C by omega)
  have h3 : offS C g m (i + 1) = offS C g m i + shN C g m i := rfl
  omega
theorem flatMap_range_succ (f : Nat → List Int) (j : Nat) : (List.range (j + 1)).flatMap f = (List.range j).flatMap f ++ f j := by
  rw [List.range_succ, List.flatMap_append]; simp
theorem bE_inv {xs : List Int} (h : bE xs = 0) : 1 ≤ xs.length ∧ xs.length ≤ 79536 ∧ ValidB xs = true := by
  unfold bE at h
  split at h
  · cases h
  · split at h
    · exact ⟨by omega, by omega, by assumption⟩
    · cases h
theorem bD_eq {xs : List Int} (h : bE xs = 0) (hy : Byt xs) : bD xs = segs (xs.length + 24) (List.replicate (fi (xs.length + 24)) 0 ++ (xs ++ crcSum 1 xs)) (bC (xs.length + 24)) ∧ Bit (xs ++ crcSum 1 xs) ∧ (xs ++ crcSum 1 xs).length = xs.length + 24 := by
  obtain ⟨h1, h2, hv⟩ := bE_inv h
  have hbit := bit_of (fun x hx => (hy x hx).1) hv
  have hcl : (crcSum 1 xs).length = 24 := by rw [crcSum_len]; rfl
  have hcb : Bit (crcSum 1 xs) := bit_sum (by decide) hbit
  have hab := bit_app hbit hcb
  have hvb := validB_of_bit hab
  have hal : (xs ++ crcSum 1 xs).length = xs.length + 24 := by rw [List.length_append, hcl]
  have hs : sE (xs ++ crcSum 1 xs) = 0 := by
    unfold sE
    rw [hal, if_neg (by omega), if_pos hvb]
  refine ⟨?_, hab, hal⟩
  unfold bD
  rw [if_pos h]
  unfold sD
  rw [if_pos hs, hal]
theorem bD_len {xs : List Int} (h : bE xs = 0) (hy : Byt xs) : (bD xs).length = bC (xs.length + 24) := by
  rw [(bD_eq h hy).1]; simp [segs]
theorem bD_at {xs : List Int} (h : bE xs = 0) (hy : Byt xs) {j : Nat} {d : List Int} (hd : (bD xs)[j]? = some d) : d.length = sz (xs.length + 24) j ∧ Bit d ∧ Tu.validK (d.length : Int) = true := by
  obtain ⟨h1, h2, h3⟩ := bD_eq h hy
  have hv := sD_vk (ys := xs ++ crcSum 1 xs) d (by
    have h5 := List.mem_of_getElem? hd
    unfold bD at h5
    rw [if_pos h] at h5
    exact h5)
  rw [h1] at hd
  have hbt := segs_bit (bit_app (bit_zeros _) h2) d (List.mem_of_getElem? hd)
  have hj : j < bC (xs.length + 24) := by
    have h4 := (List.getElem?_eq_some_iff.1 hd).1
    simpa [segs] using h4
  unfold segs at hd
  rw [List.getElem?_map, List.getElem?_range hj] at hd
  have hd := Option.some.inj hd
  refine ⟨?_, hbt, hv⟩
  rw [← hd]
  have h8 := off_le (b := xs.length + 24) (show j + 1 ≤ bC (xs.length + 24) by omega)
  have h9 : off (xs.length + 24) (j + 1) = off (xs.length + 24) j + (sz (xs.length + 24) j - ck (xs.length + 24)) := rfl
  have h10 := off_all (b := xs.length + 24) (by omega)
  refine segB_len (by omega) _ ?_
  rw [List.length_take, List.length_drop, List.length_append, List.length_replicate, h3]; omega
theorem encW_len {d : List Int} (hb : Bit d) (hv : Tu.validK (d.length : Int) = true) : (Tu.encW d).length = 3 * (d.length + 4) := by
  have hvb : Tu.ValidB d = true := bit_valid hb
  have e : Tu.encW d = Tu.wordI (Tu.toB d) := by unfold Tu.encW; rw [if_pos hv, if_pos hvb]
  rw [e, Tu.wordI_len]
  simp [Tu.toB]
/-- a word of the list -/
theorem word_at {xs : List Int} {L : List Sv} (h : bE xs = 0) (hy : Byt xs) (hL : L.map (·.xs) = (bD xs).map Tu.encW) {j : Nat} {s : Sv} (hj : L[j]? = some s) :
    s.xs = Tu.encW ((bD xs).getD j []) ∧ s.xs.length = 3 * (sz (xs.length + 24) j + 4) ∧ ValidB s.xs = true ∧ j < bC (xs.length + 24) := by
  have h1 : (L.map (·.xs))[j]? = some s.xs := by rw [List.getElem?_map, hj]; rfl
  rw [hL, List.getElem?_map] at h1
  obtain ⟨d, hd, he⟩ := Option.map_eq_some_iff.1 h1
  obtain ⟨e1, e2, e3⟩ := bD_at h hy hd
  have hj2 := (List.getElem?_eq_some_iff.1 hd).1
  refine ⟨?_, ?_, ?_, ?_⟩
  · rw [← he, List.getD_eq_getElem?_getD, hd]; rfl
  · rw [← he, encW_len e2 e3, e1]
  · rw [← he]; exact validB_of_bit encW_bit
  · rw [← bD_len h hy]; exact hj2
theorem flat_tot {L : List Sv} (h : ∀ s ∈ L, s.xs.length = s.n) : ∀ j, tot L j = (flat L j).length
  | 0 => by simp [tot, flat]
  | j + 1 => by
    cases hj : L[j]? with
    | none =>
      have h1 : L.length ≤ j := List.getElem?_eq_none_iff.1 hj
      have h2 := flat_tot h j
      unfold tot flat at *
      rw [List.take_of_length_le (by omega)] at h2 ⊢
      exact h2
    | some s => rw [tot_succ hj, flat_succ hj, List.length_append, flat_tot h j, h s (List.mem_of_getElem? hj)]
theorem flat_map {L : List Sv} {f : Nat → List Int} {C : Nat} (h : L.map (·.xs) = (List.range C).map f) : flat L L.length = (List.range C).flatMap f := by
  unfold flat
  rw [List.take_length, List.flatMap_def, List.flatMap_def, h]
theorem rowX_len {b : Nat} {lim : Int} {C g m rv : Nat} {xs : List Int} {i : Nat} (hl : 1 ≤ lim) (hi : ¬ bad49 b lim C g m i) : (rowX b lim C g m rv xs i).length = shN C g m i := by
  unfold rowX rowE
  rw [List.length_map]
  refine pick_len (bfE_len hl) ?_
  unfold bad49 at hi
  rw [uS_bfE] at hi
  omega
theorem rowsX_len {b : Nat} {lim : Int} {C g m rv : Nat} {xs : List Int} (hl : 1 ≤ lim) (h : ∀ q, q < C → ¬ bad49 b lim C g m q) : ∀ k, k ≤ C → ((List.range k).flatMap (rowX b lim C g m rv xs)).length = offS C g m k
  | 0, _ => rfl
  | k + 1, hk => by
    rw [flatMap_range_succ, List.length_append, rowsX_len hl h k (by omega), rowX_len hl (h k (by omega))]; rfl
theorem ex_err {b : Nat} {lim : Int} {C g m rv : Nat} {xs : List Int} (h : bE xs ≠ 0) : exE b lim C g m xs = bE xs ∧ exD b lim C g m rv xs = [] := by
  have e : exE b lim C g m xs = bE xs := by unfold exE; rw [if_neg h]
  exact ⟨e, by unfold exD; rw [e, if_neg h]⟩
theorem ex_bad {b : Nat} {lim : Int} {C g m rv : Nat} {xs : List Int} (h : bE xs = 0) (hb : ∃ q, q < C ∧ bad49 b lim C g m q) : exE b lim C g m xs = 10 ∧ exD b lim C g m rv xs = [] := by
  have e : exE b lim C g m xs = 10 := by unfold exE; rw [if_pos h, if_pos (badX_t.2 hb)]
  exact ⟨e, by unfold exD; rw [e]; rfl⟩
theorem ex_ok {b : Nat} {lim : Int} {C g m rv : Nat} {xs : List Int} (h : bE xs = 0) (hb : ∀ q, q < C → ¬ bad49 b lim C g m q) : exE b lim C g m xs = 0 ∧ exD b lim C g m rv xs = (List.range C).flatMap (rowX b lim C g m rv xs) := by
  have e : exE b lim C g m xs = 0 := by
    unfold exE; rw [if_pos h, if_neg]
    intro hx
    obtain ⟨q, h1, h2⟩ := badX_t.1 hx
    exact hb q h1 h2
  exact ⟨e, by unfold exD; rw [e]; rfl⟩
theorem tot_all {b : Nat} {lim : Int} {C g m rv : Nat} {xs : List Int} {L : List Sv} (hl : 1 ≤ lim) (hC : 1 ≤ C) (hb : ∀ q, q < C → ¬ bad49 b lim C g m q) (hL : L.map (·.xs) = (List.range C).map (rowX b lim C g m rv xs)) (hn : ∀ s ∈ L, s.xs.length = s.n) :
    tot L L.length = m * g ∧ flat L L.length = (List.range C).flatMap (rowX b lim C g m rv xs) := by
  have h1 := flat_map hL
  refine ⟨?_, h1⟩
  rw [flat_tot hn, h1, rowsX_len hl hb C (Nat.le_refl _), offS_all C g m hC]
end Go.Proofs.YtcbbkflnenkpgaaGreat

namespace Go.Proofs.YtcbbkflnenkpgaaGreat
open Go.RowKit Go.Shelf
set_option linter.unusedVariables false
attribute [local go_sem] Oper.semAt_some
set_option maxRecDepth 100000 in
set_option maxHeartbeats 2000000 in
theorem enc_bad (sz bt md lm rv : Int) (A : Option Addr) (n c : Nat) (w : World) (h : VC sz bt md lm rv = false ∨ (n : Int) ≠ sz) : Calls Tryz.prog 14 #[.agg #[.int .i64 sz, .int .i64 bt, .int .i64 md, .int .i64 lm, .int .i64 rv], .slice A n c] w (TsBad w) := by
  have HC0 := Lib.hid (Blk.new w [.int .i64 sz, .int .i64 bt, .int .i64 md, .int .i64 lm, .int .i64 rv] 40 rfl)
  have HB0 := Lib.hid (bal (Below.refl _ w) (.cells [Value.int .i64 sz, .int .i64 bt, .int .i64 md, .int .i64 lm, .int .i64 rv].toArray 40))
  have hc0 := HC0.out
  by_cases hV : VC sz bt md lm rv = true
  · have hne : (n : Int) ≠ sz := by rcases h with h | h; rw [hV] at h; cases h; exact h
    obtain ⟨s, g, m, rfl, rfl, rfl, hs1, hs2, hm, hgm, hlm, hrv1, hrv2⟩ := VC_true hV
    have HS := Lib.hid (fun W => shares_ok s (bC (s + 24)) g m lm rv W hs1 hs2 rfl hm hgm hlm ⟨hrv1, hrv2⟩)
    obtain ⟨bt, hbt⟩ : ∃ bt, bt = ((m * g : Nat) : Int) := ⟨_, rfl⟩
    rw [← hbt] at HS HC0 HB0 hc0 ⊢
    have q : ((n : Int) != (s : Int)) = true := bne_t hne
    clear h hV hbt hne
    go_enter Tryz.func14, Tryz.ntmps14
    go_wp2_with (first
      | (refine ldrow (cs := [.int .i64 s, .int .i64 bt, .int .i64 m, .int .i64 lm, .int .i64 rv]) rfl 40 (.tmp 2) rfl rfl hc0 _ Tryz.underlying40 rfl (by kernel_rfl) ?_)
      | (go_at_call 25; refine (HS.out _).mono ?_; rintro e w1 ⟨A1, c1, rfl, hO1, hB1⟩; have k0 := ((HC0.out.below hB1).alloc (.cells #[.slice A1 (bC (s + 24)) c1] 60)).cell (j := 0) (v := .int .i64 s) rfl; have HB1 := Lib.hid (bal (HB0.out.trans (hB1.mono HB0.out.size)) (.cells #[.slice A1 (bC (s + 24)) c1] 60)); clear hO1 hB1))
    go_ret2
    exact ⟨rfl, HB1.out⟩
  · have HS := Lib.hid (fun W => shares_bad sz bt md lm rv W (by simpa using hV))
    clear h hV
    go_enter Tryz.func14, Tryz.ntmps14
    go_wp2_with (first
      | (refine ldrow (cs := [.int .i64 sz, .int .i64 bt, .int .i64 md, .int .i64 lm, .int .i64 rv]) rfl 40 (.tmp 2) rfl rfl hc0 _ Tryz.underlying40 rfl (by kernel_rfl) ?_)
      | (go_at_call 25; refine (HS.out _).mono ?_; rintro e w1 ⟨rfl, hB1⟩; have HB1 := Lib.hid (bal (HB0.out.trans (hB1.mono HB0.out.size)) (.cells #[.slice none 0 0] 60)); clear hB1))
    go_ret2
    exact ⟨rfl, HB1.out⟩
end Go.Proofs.YtcbbkflnenkpgaaGreat

namespace Go.Proofs.YtcbbkflnenkpgaaGreat
open Go.RowKit Go.Shelf
set_option linter.unusedVariables false
attribute [local go_sem] Oper.semAt_some
theorem cl28_row {xs : List Int} {L : List Sv} (hE : bE xs = 0) (hy : Byt xs) (hL : L.map (·.xs) = (bD xs).map Tu.encW) (C g m : Nat) (hC : C = bC (xs.length + 24)) (hgm : m * g ≤ 131072) (lim : Int) (hl : 1 ≤ lim) (rv : Nat) (hrv : rv ≤ 3) (LB CB EB : Nat) (Ae : Option Addr) (ce : Nat) {j : Nat} {s : Sv} (hj : L[j]? = some s) (W : World)
    (hb : Blk W LB 51 (ints8 (LY (xs.length + 24)))) (h3 : W.cell? ⟨CB, 3, none⟩ = some (.int .i64 lim)) (h4 : W.cell? ⟨CB, 4, none⟩ = some (.int .i64 (rv : Int))) (h0 : W.cell? ⟨EB, 0, none⟩ = some (.slice Ae C ce)) (he : Rd .i64 W Ae C ce (shT C g m C)) (hx : Rd .u8 W s.A s.n s.c s.xs) :
    Calls Tryz.prog 28 #[.int .i64 (j : Int), .slice s.A s.n s.c, .pointer (some ⟨LB, 0, none⟩), .pointer (some ⟨CB, 0, none⟩), .pointer (some ⟨EB, 0, none⟩)] W (CePost (bad49 (xs.length + 24) lim C g m j) (rowX (xs.length + 24) lim C g m rv xs j) W) := by
  obtain ⟨e1, e2, e3, e4⟩ := word_at hE hy hL hj
  have hn : s.n = 3 * (sz (xs.length + 24) j + 4) := by rw [← hx.len, ← e2]
  have hb1 := bE_inv hE
  have hz := sz_ge (b := xs.length + 24) (i := j) (by omega)
  have hC1 : 1 ≤ C := by rw [hC]; exact bC_pos
  have hsh := shN_le C g m j hC1 (by omega)
  have hM : ∀ w, Rd .u8 w s.A s.n s.c s.xs → Calls Tryz.prog 29 #[.slice s.A s.n s.c, .int .i64 (fl (xs.length + 24) j : Int), .int .i64 lim, .int .i64 rv, .int .i64 (shN C g m j : Nat)] w (MtPost s.xs (bfE (xs.length + 24) lim j) (stS (sz (xs.length + 24) j) (szB (sz (xs.length + 24) j) lim) rv) (szB (sz (xs.length + 24) j) lim) (shN C g m j) w) := fun w hw => by
    rw [hn] at hw ⊢
    exact match_ok s.A s.c s.xs (sz (xs.length + 24) j) (fl (xs.length + 24) j) rv (shN C g m j) lim w hw e3 (sz_40 _ _) hz.2 (fl_lt (by omega)) hl hrv (by omega)
  have h := cl28_any LB CB EB (xs.length + 24) j (shN C g m j) rv 0 lim s.A Ae s.n s.c C ce s.xs (bfE (xs.length + 24) lim j) (stS (sz (xs.length + 24) j) (szB (sz (xs.length + 24) j) lim) rv) (szB (sz (xs.length + 24) j) lim) W ⟨hb, h3, h4, h0, ⟨_, he, by rw [shT_gi _ _ _ _ _ (by omega), shr_cast]⟩, hx, by omega⟩ hM
  refine h.mono fun en w' hp => ?_
  have hc := cepost_of (bfE_len hl) hp
  rw [e1] at hc
  exact hc
/-- what Encode gives -/
def ExPost (b : Nat) (lim : Int) (C g m rv : Nat) (xs : List Int) (w : World) (en : Ending) (w' : World) : Prop :=
  ∃ A n c, en = .returned (.tuple #[.slice A n c, .int .i64 (exE b lim C g m xs)]) ∧ Own .u8 5 w' w.heap.size A n c (exD b lim C g m rv xs) ∧ Below w.heap.size w w'
set_option maxRecDepth 100000 in
set_option maxHeartbeats 2000000 in
theorem enc_ok (s C g m rv : Nat) (lm : Int) (A : Option Addr) (n c : Nat) (xs : List Int) (w : World) (hs1 : 1 ≤ s) (hs2 : s ≤ 79536) (hCe : C = bC (s + 24)) (hmm : m = 2 ∨ m = 4 ∨ m = 6) (hgm : m * g ≤ 131072) (hlm : 1 ≤ lm) (hrv : rv ≤ 3)
    (hn : n = s) (hx : Rd .u8 w A n c xs) (hy : Byt xs) :
    Calls Tryz.prog 14 #[.agg #[.int .i64 s, .int .i64 ((m * g : Nat) : Int), .int .i64 m, .int .i64 lm, .int .i64 (rv : Int)], .slice A n c] w (ExPost (s + 24) lm C g m rv xs w) := by
  subst hn
  have hxl : xs.length = n := hx.len
  have HS := Lib.hid (fun W => shares_ok n C g m lm rv W hs1 hs2 hCe hmm hgm hlm (by omega))
  have HW := Lib.hid (fun W h => words_any A n c xs W h hy hs2)
  unfold WdAll at HW
  have HLY := Lib.hid (fun W => lay_any n W)
  have hly : ly15 n = (LY (n + 24), 0) := by unfold ly15; rw [if_neg (by omega)]; rfl
  rw [hly] at HLY
  clear hly
  have hC1 : 1 ≤ C := by rw [hCe]; exact bC_pos
  have hC2 : C ≤ 13 := by rw [hCe]; exact bC_le (by omega)
  have HCL := Lib.hid (fun (hE : bE xs = 0) (L : List Sv) (hL : L.map (·.xs) = (bD xs).map Tu.encW) => @cl28_row xs L hE hy hL C g m (by rw [hxl]; exact hCe) hgm lm hlm rv hrv)
  rw [hxl] at HCL
  have HGM := Lib.hid hgm
  obtain ⟨bt, hbt⟩ : ∃ bt, bt = ((m * g : Nat) : Int) := ⟨_, rfl⟩
  rw [← hbt] at HS ⊢
  have q : ((n : Int) != (n : Int)) = false := bne_f rfl
  have HC0 := Lib.hid (Blk.new w [.int .i64 n, .int .i64 bt, .int .i64 m, .int .i64 lm, .int .i64 (rv : Int)] 40 rfl)
  have HB0 := Lib.hid (bal (Below.refl _ w) (.cells [Value.int .i64 n, .int .i64 bt, .int .i64 m, .int .i64 lm, .int .i64 (rv : Int)].toArray 40))
  have HX0 := Lib.hid (hx.alloc (.cells [Value.int .i64 n, .int .i64 bt, .int .i64 m, .int .i64 lm, .int .i64 (rv : Int)].toArray 40))
  have hc0 := HC0.out
  by_cases hE : bE xs = 0
  · rw [hE] at HW
    have HE := Lib.hid hE
    have HDL := Lib.hid (show (bD xs).length = C by rw [bD_len hE hy, hxl, ← hCe])
    clear hbt hCe hmm hgm hE hy hx
    go_enter Tryz.func14, Tryz.ntmps14
    go_wp2_with (first
      | (refine ldrow (cs := [.int .i64 n, .int .i64 bt, .int .i64 m, .int .i64 lm, .int .i64 (rv : Int)]) rfl 40 (.tmp 2) rfl rfl hc0 _ Tryz.underlying40 rfl (by kernel_rfl) ?_)
      | (go_at_call 25; refine (HS.out _).mono ?_; rintro e w1 ⟨A1, c1, rfl, hO1, hB1⟩
         have HC1 := Lib.hid ((HC0.out.below hB1).alloc (.cells #[.slice A1 C c1] 60))
         have k0 := HC1.out.cell (j := 0) (v := .int .i64 n) rfl
         have HE1 : Hid (Blk (w1.alloc (.cells #[.slice A1 C c1] 60)) w1.heap.size 60 [.slice A1 C c1]) := Lib.hid (Blk.new w1 _ 60 rfl)
         have HN1 := Lib.hid ((Own.rd hO1).alloc (.cells #[.slice A1 C c1] 60))
         have HX1 := Lib.hid ((Rdv.below HX0.out hB1).alloc (.cells #[.slice A1 C c1] 60))
         have HB1 := Lib.hid (bal (HB0.out.trans (hB1.mono HB0.out.size)) (.cells #[.slice A1 C c1] 60))
         clear hO1 hB1)
      | (go_at_call 9; refine (HW.out _ HX1.out).mono ?_; rintro e w2 ⟨A2, n2, c2, L2, rfl, hn2, hBL2, hxs2, hB2⟩
         have HL2 := Lib.hid (show RL w2 A2 n2 c2 L2 by rw [hn2]; exact hBL2.rl)
         have HX2 := Lib.hid hxs2
         have HC2 := Lib.hid (HC1.out.below hB2)
         have k1 := HC2.out.cell (j := 0) (v := .int .i64 n) rfl
         have HE2 := Lib.hid (HE1.out.below hB2)
         have HN2 := Lib.hid (Rdv.below HN1.out hB2)
         have HB2 := Lib.hid (HB1.out.trans (hB2.mono HB1.out.size))
         clear hn2 hBL2 hxs2 hB2 k0 HC1 HE1 HN1 HX1 HB1)
      | (go_at_call 17; refine (HLY.out _).mono ?_; rintro e w3 ⟨rfl, hB3⟩; have hL0 : Blk (w3.alloc (.cells (ints8 zero7).toArray 51)) w3.heap.size 51 (ints8 zero7) := Blk.new w3 _ 51 rfl; have HBw3 := Lib.hid hB3; clear hB3; simp only [ints8, zero7, List.map_cons, List.map_nil] at hL0)
      | (refine strow (cs := ints8 (LY (n + 24))) rfl 51 (.tmp 9) (.tmp 38) rfl rfl rfl hL0 (by simp [ints8, LY]) (by rw [info23]; simp [ints8, LY]) (ints8_one _) ?_
         intro W4 g1 g2
         have hq := (Below.refl w3.heap.size w3).alloc (Nat.le_refl _) (.cells #[.int .i64 0, .int .i64 0, .int .i64 0, .int .i64 0, .int .i64 0, .int .i64 0, .int .i64 0] 51)
         have HB3 := Lib.hid (HBw3.out.trans ((hq.grown g2 hq.size (fun k hk => by cases hk; exact Nat.le_refl _)).mono HBw3.out.size))
         have HLB := Lib.hid g1
         clear g1 g2 hq hL0))
    have HC4 := Lib.hid (HC2.out.below HB3.out)
    have HE4 := Lib.hid (HE2.out.below HB3.out)
    have HN4 := Lib.hid (Rdv.below HN2.out HB3.out)
    have HL4 := Lib.hid (HL2.out.below HB3.out)
    have HB4 := Lib.hid (HB2.out.trans (HB3.out.mono HB2.out.size))
    have hl2 : L2.length = n2 := HL4.out.len
    have hl3 : L2.length = C := by
      have := congrArg List.length HX2.out
      rw [List.length_map, List.length_map, HDL.out] at this
      exact this
    obtain rfl : n2 = C := by omega
    refine (each20e_any A2 n2 c2 L2 (.pointer (some ⟨w3.heap.size, 0, none⟩)) (.pointer (some ⟨w.heap.size, 0, none⟩)) (.pointer (some ⟨w1.heap.size, 0, none⟩)) (bad49 (n + 24) lm n2 g m) (rowX (n + 24) lm n2 g m rv xs) W4 HL4.out (by omega) (fun j s wr hj hB => HCL.out HE.out L2 HX2.out w3.heap.size w.heap.size w1.heap.size A1 c1 hj wr (HLB.out.below hB) ((HC4.out.below hB).cell (j := 3) rfl) ((HC4.out.below hB).cell (j := 4) rfl) ((HE4.out.below hB).cell (j := 0) rfl) (Rdv.below HN4.out hB) ((HL4.out.below hB).r s (List.mem_of_getElem? hj)))).mono ?_
    clear hl2 hl3
    rintro e w5 ⟨hB5, ⟨hbad, rfl⟩ | ⟨hok, A5, c5, L5, rfl, hBL5, hxs5⟩⟩
    · have HB5 := Lib.hid (HB4.out.trans (hB5.mono HB4.out.size))
      have HEX := Lib.hid (ex_bad (b := n + 24) (lim := lm) (g := g) (m := m) (rv := rv) HE.out hbad)
      clear hbad hB5
      go_wp2_with fail
      refine (concat_any none 0 0 [] w5 (BL.nil w5 0).rd (by simp) (by simp [tot])).mono ?_
      rintro e w6 ⟨A6, c6, rfl, hO6, hB6⟩
      have HO6 := Lib.hid (Ownv.mono hO6 (show w.heap.size ≤ w5.heap.size from HB5.out.size))
      have HB6 := Lib.hid (HB5.out.trans (hB6.mono HB5.out.size))
      clear hO6 hB6
      go_wp2
      go_ret2
      exact ⟨A6, tot [] 0, c6, by rw [HEX.out.1]; rfl, by rw [HEX.out.2]; exact HO6.out, HB6.out⟩
    · have HB5 := Lib.hid (HB4.out.trans (hB5.mono HB4.out.size))
      have HEX := Lib.hid (ex_ok (b := n + 24) (lim := lm) (g := g) (m := m) (rv := rv) HE.out hok)
      have htt := tot_all hlm hC1 hok hxs5 (fun s hs => Rd.len (Own.rd (hBL5.r s hs).1))
      have HTT := Lib.hid htt
      have HBL5 := Lib.hid hBL5
      have htl : tot L5 L5.length ≤ 1000000 := by rw [htt.1]; have := HGM.out; omega
      clear hok hB5 hxs5 hBL5 htt
      go_wp2_with fail
      refine (concat_any A5 L5.length c5 L5 w5 HBL5.out.rd (fun s hs => Own.rd (HBL5.out.r s hs).1) htl).mono ?_
      rintro e w6 ⟨A6, c6, rfl, hO6, hB6⟩
      have HO6 := Lib.hid (Ownv.mono hO6 (show w.heap.size ≤ w5.heap.size from HB5.out.size))
      have HB6 := Lib.hid (HB5.out.trans (hB6.mono HB5.out.size))
      clear hO6 hB6
      generalize tot L5 L5.length = T at *
      go_wp2
      go_ret2
      exact ⟨A6, T, c6, by rw [HEX.out.1]; rfl, by rw [HEX.out.2, ← HTT.out.2]; exact HO6.out, HB6.out⟩
  · have HE := Lib.hid (ex_err (b := n + 24) (lim := lm) (C := C) (g := g) (m := m) (rv := rv) hE)
    have hq := bne_t hE
    generalize bE xs = E at *
    clear hE hbt hCe hmm hgm hy hx HCL HLY hC1 hC2 hlm hrv hs1 HGM
    go_enter Tryz.func14, Tryz.ntmps14
    go_wp2_with (first
      | (refine ldrow (cs := [.int .i64 n, .int .i64 bt, .int .i64 m, .int .i64 lm, .int .i64 (rv : Int)]) rfl 40 (.tmp 2) rfl rfl hc0 _ Tryz.underlying40 rfl (by kernel_rfl) ?_)
      | (go_at_call 25; refine (HS.out _).mono ?_; rintro e w1 ⟨A1, c1, rfl, hO1, hB1⟩
         have k0 := ((HC0.out.below hB1).alloc (.cells #[.slice A1 C c1] 60)).cell (j := 0) (v := .int .i64 n) rfl
         have HX1 := Lib.hid ((Rdv.below HX0.out hB1).alloc (.cells #[.slice A1 C c1] 60))
         have HB1 := Lib.hid (bal (HB0.out.trans (hB1.mono HB0.out.size)) (.cells #[.slice A1 C c1] 60))
         clear hO1 hB1)
      | (go_at_call 9; refine (HW.out _ HX1.out).mono ?_; rintro e w2 ⟨A2, n2, c2, L2, rfl, hn2, hBL2, hxs2, hB2⟩
         have HB2 := Lib.hid (HB1.out.trans (hB2.mono HB1.out.size))
         clear hn2 hBL2 hxs2 hB2 k0 HX1 HB1))
    go_ret2
    exact ⟨none, 0, 0, by rw [HE.out.1]; rfl, by rw [HE.out.2]; exact Own.nilv _ _ _ _, HB2.out⟩
end Go.Proofs.YtcbbkflnenkpgaaGreat

namespace Go.Proofs.YtcbbkflnenkpgaaGreat
open Go.RowKit Go.Shelf
set_option linter.unusedVariables false
attribute [local go_sem] Oper.semAt_some
theorem take_gi {l : List Int} {x : Nat} (h : x < l.length) : l.take (x + 1) = l.take x ++ [gi l x] := by
  rw [List.take_add_one, List.getElem?_eq_getElem h, gi_eq l x h]; rfl
set_option maxRecDepth 100000 in
set_option maxHeartbeats 2000000 in
theorem renc_bad (sz bt md lm rv : Int) (A : Option Addr) (n c : Nat) (w : World) (h : VC sz bt md lm rv = false ∨ (n : Int) ≠ sz) : Calls Tryz.prog 15 #[.agg #[.int .i64 sz, .int .i64 bt, .int .i64 md, .int .i64 lm, .int .i64 rv], .slice A n c] w (TsBad w) := by
  have HC0 := Lib.hid (Blk.new w [.int .i64 sz, .int .i64 bt, .int .i64 md, .int .i64 lm, .int .i64 rv] 40 rfl)
  have HB0 := Lib.hid (bal (Below.refl _ w) (.cells [Value.int .i64 sz, .int .i64 bt, .int .i64 md, .int .i64 lm, .int .i64 rv].toArray 40))
  have hc0 := HC0.out
  by_cases hV : VC sz bt md lm rv = true
  · have hne : (n : Int) ≠ sz := by rcases h with h | h; rw [hV] at h; cases h; exact h
    obtain ⟨s, g, m, rfl, rfl, rfl, hs1, hs2, hm, hgm, hlm, hrv1, hrv2⟩ := VC_true hV
    have HS := Lib.hid (fun W => rshares_ok s (bC (s + 24)) g m lm rv W hs1 hs2 rfl hm hgm hlm ⟨hrv1, hrv2⟩)
    obtain ⟨bt, hbt⟩ : ∃ bt, bt = ((m * g : Nat) : Int) := ⟨_, rfl⟩
    rw [← hbt] at HS HC0 HB0 hc0 ⊢
    have q : ((n : Int) != (s : Int)) = true := bne_t hne
    clear h hV hbt hne
    go_enter Tryz.func15, Tryz.ntmps15
    go_wp2_with (first
      | (refine ldrow (cs := [.int .i64 s, .int .i64 bt, .int .i64 m, .int .i64 lm, .int .i64 rv]) rfl 40 (.tmp 2) rfl rfl hc0 _ Tryz.underlying40 rfl (by kernel_rfl) ?_)
      | (go_at_call 32; refine (HS.out _).mono ?_; rintro e w1 ⟨A1, c1, rfl, hO1, hB1⟩; have k0 := (HC0.out.below hB1).cell (j := 0) (v := .int .i64 s) rfl; have HB1 := Lib.hid (HB0.out.trans (hB1.mono HB0.out.size)); clear hO1 hB1))
    go_ret2
    exact ⟨rfl, HB1.out⟩
  · have HS := Lib.hid (fun W => rshares_bad sz bt md lm rv W (by simpa using hV))
    clear h hV
    go_enter Tryz.func15, Tryz.ntmps15
    go_wp2_with (first
      | (refine ldrow (cs := [.int .i64 sz, .int .i64 bt, .int .i64 md, .int .i64 lm, .int .i64 rv]) rfl 40 (.tmp 2) rfl rfl hc0 _ Tryz.underlying40 rfl (by kernel_rfl) ?_)
      | (go_at_call 32; refine (HS.out _).mono ?_; rintro e w1 ⟨rfl, hB1⟩; have HB1 := Lib.hid (HB0.out.trans (hB1.mono HB0.out.size)); clear hB1))
    go_ret2
    exact ⟨rfl, HB1.out⟩
/-- what the round of the outer loop reads -/
structure ReS (LB CB b : Nat) (lim : Int) (rv : Nat) (aw : Addr) (s : Sv) (ae : Addr) (e : Nat) (W : World) : Prop where
  l : Blk W LB 51 (ints8 (LY b))
  c3 : W.cell? ⟨CB, 3, none⟩ = some (.int .i64 lim)
  c4 : W.cell? ⟨CB, 4, none⟩ = some (.int .i64 (rv : Int))
  s : W.cell? aw = some (.slice s.A s.n s.c)
  e : W.cell? ae = some (.int .i64 (e : Int))
theorem ReS.below {LB CB b : Nat} {lim : Int} {rv : Nat} {aw : Addr} {s : Sv} {ae : Addr} {e : Nat} {W W' : World} (h : ReS LB CB b lim rv aw s ae e W) (hb : Below W.heap.size W W') : ReS LB CB b lim rv aw s ae e W' :=
  ⟨h.l.below hb, cell_below h.c3 hb, cell_below h.c4 hb, cell_below h.s hb, cell_below h.e hb⟩
/-- what the round of the inner loop reads -/
structure Re2 (aw : Addr) (s : Sv) (ap : Addr) (p : Nat) (ax : Addr) (v : Int) (W : World) : Prop where
  s : W.cell? aw = some (.slice s.A s.n s.c)
  p : W.cell? ap = some (.int .i64 (p : Int))
  v : W.cell? ax = some (.int .u8 v)
def ReI (W5 : World) (b : Nat) (lim : Int) (C g m rv : Nat) (xs : List Int) (o i : Value) (wr : World) : Prop :=
  ∃ (j : Nat) (A : Option Addr) (c : Nat), j ≤ C ∧ i = .int .i64 (j : Int) ∧ o = .slice A (offS C g m j) c ∧ Own .u8 5 wr W5.heap.size A (offS C g m j) c ((List.range j).flatMap (rowX b lim C g m rv xs)) ∧ Below W5.heap.size W5 wr
def ReK (W5 : World) (F : Nat) (pre row : List Int) (e : Nat) (Ap : Option Addr) (cp : Nat) (L : List Int) (o i : Value) (wr : World) : Prop :=
  ∃ (x : Nat) (A : Option Addr) (c : Nat), x ≤ e ∧ i = .int .i64 (x : Int) ∧ o = .slice A (F + x) c ∧ Own .u8 5 wr W5.heap.size A (F + x) c (pre ++ row.take x) ∧ Own .i64 3 wr W5.heap.size Ap e cp L ∧ Below W5.heap.size W5 wr
set_option maxRecDepth 100000 in
set_option maxHeartbeats 1000000 in
theorem renc_ok (n C g m rv : Nat) (lm : Int) (A : Option Addr) (c : Nat) (xs : List Int) (w : World) (hs1 : 1 ≤ n) (hs2 : n ≤ 79536) (hCe : C = bC (n + 24)) (hmm : m = 2 ∨ m = 4 ∨ m = 6) (hgm : m * g ≤ 131072) (hlm : 1 ≤ lm) (hrv : rv ≤ 3)
    (hx : Rd .u8 w A n c xs) (hy : Byt xs) :
    Calls Tryz.prog 15 #[.agg #[.int .i64 n, .int .i64 ((m * g : Nat) : Int), .int .i64 m, .int .i64 lm, .int .i64 (rv : Int)], .slice A n c] w (ExPost (n + 24) lm C g m rv xs w) := by
  have hxl : xs.length = n := hx.len
  have HS := Lib.hid (fun W => rshares_ok n C g m lm rv W hs1 hs2 hCe hmm hgm hlm (by omega))
  have HU := Lib.hid (fun W => rusable_ok n C g m lm rv W hs1 hs2 hCe hmm hgm hlm (by omega))
  have HW := Lib.hid (fun W h => rwords_any A n c xs W h hy hs2)
  unfold WdAll at HW
  have HLY := Lib.hid (fun W => rlay_any n W)
  have hly : ly15 n = (LY (n + 24), 0) := by unfold ly15; rw [if_neg (by omega)]; rfl
  rw [hly] at HLY
  clear hly
  have hC1 : 1 ≤ C := by rw [hCe]; exact bC_pos
  have hC2 : C ≤ 13 := by rw [hCe]; exact bC_le (by omega)
  have HSH := Lib.hid (fun i (hi : i < C) => Nat.le_trans (shN_le C g m i hC1 hi) hgm)
  have HOF := Lib.hid (fun i (hi : i ≤ C) => Nat.le_trans (Nat.le_trans (offS_le hi) (Nat.le_of_eq (offS_all C g m hC1))) hgm)
  obtain ⟨bt, hbt⟩ : ∃ bt, bt = ((m * g : Nat) : Int) := ⟨_, rfl⟩
  rw [← hbt] at HS HU ⊢
  have q : ((n : Int) != (n : Int)) = false := bne_f rfl
  have HC0 := Lib.hid (Blk.new w [.int .i64 n, .int .i64 bt, .int .i64 m, .int .i64 lm, .int .i64 (rv : Int)] 40 rfl)
  have HB0 := Lib.hid (bal (Below.refl _ w) (.cells [Value.int .i64 n, .int .i64 bt, .int .i64 m, .int .i64 lm, .int .i64 (rv : Int)].toArray 40))
  have HX0 := Lib.hid (hx.alloc (.cells [Value.int .i64 n, .int .i64 bt, .int .i64 m, .int .i64 lm, .int .i64 (rv : Int)].toArray 40))
  have hc0 := HC0.out
  by_cases hE : bE xs = 0
  · rw [hE] at HW
    have HE := Lib.hid hE
    have HY := Lib.hid hy
    have HXL := Lib.hid hxl
    have HDL := Lib.hid (show (bD xs).length = C by rw [bD_len hE hy, hxl, ← hCe])
    have HLM := Lib.hid hlm
    have HRV := Lib.hid hrv
    have HN1 := Lib.hid hs1
    clear hbt hCe hmm hgm hE hy hx hxl hlm hrv
    go_enter Tryz.func15, Tryz.ntmps15
    go_wp2_with (first
      | (refine ldrow (cs := [.int .i64 n, .int .i64 bt, .int .i64 m, .int .i64 lm, .int .i64 (rv : Int)]) rfl 40 (.tmp 2) rfl rfl hc0 _ Tryz.underlying40 rfl (by kernel_rfl) ?_)
      | (go_at_call 32; refine (HS.out _).mono ?_; rintro e w1 ⟨An, cn, rfl, hO1, hB1⟩
         have HC1 := Lib.hid (HC0.out.below hB1)
         have k0 := HC1.out.cell (j := 0) (v := .int .i64 n) rfl
         have HN1 := Lib.hid (Own.rd hO1)
         have HX1 := Lib.hid (Rdv.below HX0.out hB1)
         have HB1 := Lib.hid (HB0.out.trans (hB1.mono HB0.out.size))
         clear hO1 hB1 hc0)
      | (go_at_call 10; refine (HW.out _ HX1.out).mono ?_; rintro e w2 ⟨Aw, n2, cw, L2, rfl, hn2, hBL2, hxs2, hB2⟩
         have HL2 := Lib.hid (show RL w2 Aw n2 cw L2 by rw [hn2]; exact hBL2.rl)
         have HX2 := Lib.hid hxs2
         have hc2 := HC1.out.below hB2
         have HC2 := Lib.hid hc2
         have HN2 := Lib.hid (Rdv.below HN1.out hB2)
         have HB2 := Lib.hid (HB1.out.trans (hB2.mono HB1.out.size))
         clear hn2 hBL2 hxs2 hB2 k0 HC1 HN1 HX1 HB1)
      | (refine ldrow (cs := [.int .i64 n, .int .i64 bt, .int .i64 m, .int .i64 lm, .int .i64 (rv : Int)]) rfl 40 (.tmp 2) rfl rfl hc2 _ Tryz.underlying40 rfl (by kernel_rfl) ?_))
    refine (HU.out _).mono ?_
    rintro e w3 ⟨r, rfl, hr, hB3⟩
    have HR := Lib.hid hr
    have HB3 := Lib.hid hB3
    clear hr hB3 hc2
    by_cases hr0 : r = true
    · subst hr0
      have HOK := Lib.hid (HR.out.1 rfl)
      have hc3 := HC2.out.below HB3.out
      have k0 := hc3.cell (j := 0) (v := .int .i64 n) rfl
      have HC3 := Lib.hid hc3
      have HN3 := Lib.hid (Rdv.below HN2.out HB3.out)
      have HL3 := Lib.hid (HL2.out.below HB3.out)
      have HB3 := Lib.hid (HB2.out.trans (HB3.out.mono HB2.out.size))
      clear hc3 HC2 HN2 HL2 HB2 HR HU
      go_wp2_with (first
        | (go_at_call 34; refine (HLY.out _).mono ?_; rintro e w4 ⟨rfl, hB4⟩; have hL0 : Blk (w4.alloc (.cells (ints8 zero7).toArray 51)) w4.heap.size 51 (ints8 zero7) := Blk.new w4 _ 51 rfl; have HBw4 := Lib.hid hB4; clear hB4; simp only [ints8, zero7, List.map_cons, List.map_nil] at hL0)
        | (refine strow (cs := ints8 (LY (n + 24))) rfl 51 (.tmp 9) (.tmp 45) rfl rfl rfl hL0 (by simp [ints8, LY]) (by rw [info23]; simp [ints8, LY]) (ints8_one _) ?_
           intro W5 g1 g2
           have hq := (Below.refl w4.heap.size w4).alloc (Nat.le_refl _) (.cells #[.int .i64 0, .int .i64 0, .int .i64 0, .int .i64 0, .int .i64 0, .int .i64 0, .int .i64 0] 51)
           have HB4 := Lib.hid (HBw4.out.trans ((hq.grown g2 hq.size (fun k hk => by cases hk; exact Nat.le_refl _)).mono HBw4.out.size))
           have HLB := Lib.hid g1
           clear g1 g2 hq hL0))
      have HC5 := Lib.hid (HC3.out.below HB4.out)
      have HN5 := Lib.hid (Rdv.below HN3.out HB4.out)
      have HL5 := Lib.hid (HL3.out.below HB4.out)
      have HB5 := Lib.hid (HB3.out.trans (HB4.out.mono HB3.out.size))
      have hl2 : L2.length = n2 := HL5.out.len
      have hl3 : L2.length = C := by
        have := congrArg List.length HX2.out
        rw [List.length_map, List.length_map, HDL.out] at this
        exact this
      obtain rfl : C = n2 := by omega
      clear hl2 hl3 HC3 HN3 HL3 HB3 HB4 HBw4 HLY HS HW HX0 HC0 HB0 k0 q
      generalize w4.heap.size = LB at *
      generalize hCB : w.heap.size = CB at *
      go_loopw [11, 12] (fun o i wr => ReI W5 (n + 24) lm C g m rv xs o i wr) (fun _ i _ => C - (intOf i).toNat)
      case atStart => exact ⟨0, none, 0, by omega, rfl, rfl, Own.nilv _ _ _ _, Below.refl _ _⟩
      case round =>
        obtain ⟨j, A6, c6, hj, rfl, rfl, hO, hB⟩ := hrel
        have HO := Lib.hid hO
        have HB := Lib.hid hB
        by_cases hlt : j < C
        · obtain ⟨s, hs, hcw, hRs⟩ := (HL5.out.below hB).get hlt
          obtain ⟨e1, e2, e3, e4⟩ := word_at HE.out HY.out HX2.out hs
          rw [HXL.out] at e2
          have hz := sz_ge (b := n + 24) (i := j) (by omega)
          have hRl := hRs.len
          have HSX := Lib.hid (show s.n = 3 * (sz (n + 24) j + 4) by omega)
          have HNB : Hid (shN C g m j ≠ 0 → ¬ usC (bfE (n + 24) lm j) = 0) := Lib.hid (fun h0 hu => HOK.out j hlt ⟨hu, by omega⟩)
          have HPO := Lib.hid (fun W => show Calls Tryz.prog 35 #[.int .i64 (sz (n + 24) j : Nat), .int .i64 (fl (n + 24) j : Nat), .int .i64 lm, .int .i64 rv, .int .i64 (shN C g m j : Nat)] W (PoPost (bfE (n + 24) lm j) (stS (sz (n + 24) j) (szB (sz (n + 24) j) lm) rv) (szB (sz (n + 24) j) lm) (shN C g m j) W) from rpos_ok (sz (n + 24) j) (fl (n + 24) j) rv (shN C g m j) lm W (sz_40 _ _) hz.2 (fl_lt (by omega)) HLM.out HRV.out (HSH.out j hlt))
          have HZB := Lib.hid (szB_bd (sz (n + 24) j) HLM.out)
          have HBL := Lib.hid (bfE_len (b := n + 24) (i := j) HLM.out)
          have HBD : Hid (∀ y, y ∈ bfE (n + 24) lm j → y < (s.n : Int)) := Lib.hid (fun y hy => by rw [HSX.out]; exact bufL_bd _ _ _ y hy)
          have HRX := Lib.hid (show rowX (n + 24) lm C g m rv xs j = (pick (bfE (n + 24) lm j) (stS (sz (n + 24) j) (szB (sz (n + 24) j) lm) rv) (szB (sz (n + 24) j) lm) (shN C g m j)).map (fun p => gi s.xs p.toNat) by rw [e1]; rfl)
          have HFM := Lib.hid (flatMap_range_succ (rowX (n + 24) lm C g m rv xs) j)
          have HRL := Lib.hid (rowX_len (b := n + 24) (C := C) (g := g) (m := m) (rv := rv) (xs := xs) HLM.out (HOK.out j hlt))
          have hOF1 : offS C g m j ≤ 131072 := HOF.out j (by omega)
          have HOS : Hid (offS C g m (j + 1) = offS C g m j + shN C g m j) := Lib.hid rfl
          have cN := Rd.cell (Rdv.below HN5.out hB) (j := j) hlt
          rw [shT_gi _ _ _ _ _ hlt, shr_cast] at cN
          have ixw := fun W => Rdv.ix HL5.out.o el55 (j := j) hlt .i64 W
          have ixn := fun W => Rdv.ix HN5.out el34 (j := j) hlt .i64 W
          have hC9 := HC5.out.below hB
          have hL9 := HLB.out.below hB
          have c93 := hC9.cell (j := 3) (v := .int .i64 lm) rfl
          have c94 := hC9.cell (j := 4) (v := .int .i64 (rv : Int)) rfl
          have HS : Hid (ReS LB CB (n + 24) lm rv (adr Aw j) s (adr An j) (shN C g m j) wr.drew) := Lib.hid ⟨hL9, c93, c94, hcw, cN⟩
          have HRs := Lib.hid hRs
          have HSJ := Lib.hid hs
          have hen := HSH.out j hlt
          clear hcw cN hC9 hL9 c93 c94 hRs hs e1 e2 e3 e4 hRl hO hB
          obtain ⟨k, hk⟩ : ∃ k, k = sz (n + 24) j := ⟨_, rfl⟩
          rw [← hk] at HSX HPO HZB HRX hz HBL
          generalize bfE (n + 24) lm j = B at *
          generalize stS k (szB k lm) rv = st at *
          generalize szB k lm = Z at *
          obtain ⟨e, he⟩ : ∃ e, e = shN C g m j := ⟨_, rfl⟩
          rw [← he] at HNB HPO HRX HRL HOS HS hen
          obtain ⟨k4, hk4⟩ : ∃ k4, k4 = k + 4 := ⟨_, rfl⟩
          have hsn : s.n = 3 * k4 := by have := HSX.out; omega
          have HSN := Lib.hid hsn
          have a1 : (s.n : Int).tdiv 3 = (k4 : Int) := by rw [Int.tdiv_eq_ediv_of_nonneg (by omega), hsn]; omega
          have a2 : (s.n : Int) / 3 = (k4 : Int) := by omega
          have a5 : IntKind.i64.wrap ((k4 : Int) - 4) = (k : Int) := by rw [IntKind.wrap_i64]; omega
          have a6 : IntKind.i64.wrap (k4 : Int) = (k4 : Int) := by rw [IntKind.wrap_i64]; omega
          clear he hk hz hk4 hsn
          obtain ⟨row, hrow⟩ : ∃ row, row = rowX (n + 24) lm C g m rv xs j := ⟨_, rfl⟩
          rw [← hrow] at HRX HFM HRL
          obtain ⟨pre, hpre⟩ : ∃ pre, pre = (List.range j).flatMap (rowX (n + 24) lm C g m rv xs) := ⟨_, rfl⟩
          rw [← hpre] at HFM HO
          obtain ⟨F, hFF⟩ : ∃ F, F = offS C g m j := ⟨_, rfl⟩
          rw [← hFF] at HO HOS hOF1 ⊢
          clear hrow hpre hFF
          go_wp2_with fail
          refine Q_start (ReS LB CB (n + 24) lm rv (adr Aw j) s (adr An j) e) 18 24 ?_
          refine Q_W 0 54 1 (.slice Aw C cw) rfl HS.out ?_
          simp only [s0, s1, s2]
          refine Q_W 1 55 3 (.int .i64 (j : Int)) rfl HS.out ?_
          simp only [s0, s1, s2]
          refine Q_W 2 56 7 (.pointer (some (adr Aw j))) rfl HS.out ?_
          simp only [s0, s1, s2]
          refine Q_T 3 57 15 (.slice s.A s.n s.c) [6, 5, 4] rfl HS.out (.inl ⟨by rfl, fun W hS => by have h1 := hS.s; go_simp⟩) ?_
          simp only [s0, s1, s2]
          refine Q_W 4 58 31 (.int .i64 (s.n : Int)) rfl HS.out ?_
          simp only [s0, s1, s2]
          refine Q_W 5 59 63 (.int .i64 (k4 : Int)) rfl HS.out ?_
          simp only [s0, s1, s2]
          refine Q_W 6 60 127 (.int .i64 (k : Int)) rfl HS.out ?_
          simp only [s0, s1, s2]
          refine Q_T 7 61 255 (.agg (ints8 (LY (n + 24))).toArray) [9] rfl HS.out (yieldsIf_load_mid rfl 51 (.tmp 9) rfl LB (0) rfl (ints8 (LY (n + 24))) _ (fun W hS => fun q v hv => hS.l.cell (by rw [Nat.zero_add]; exact hv)) Tryz.underlying51 rfl (by rw [info23]; rfl)) ?_
          simp only [s0, s1, s2]
          refine Q_W 8 62 511 (.int .i64 (j : Int)) rfl HS.out ?_
          simp only [s0, s1, s2]
          refine Q_W 10 64 1535 (.pointer (some ⟨CB, 3, none⟩)) rfl HS.out ?_
          simp only [s0, s1, s2]
          refine Q_T 11 65 3583 (.int .i64 lm) [] rfl HS.out (.inl ⟨by rfl, fun W hS => by have h1 := hS.c3; go_simp⟩) ?_
          simp only [s0, s1, s2]
          refine Q_W 12 66 7679 (.pointer (some ⟨CB, 4, none⟩)) rfl HS.out ?_
          simp only [s0, s1, s2]
          refine Q_T 13 67 15871 (.int .i64 (rv : Int)) [] rfl HS.out (.inl ⟨by rfl, fun W hS => by have h1 := hS.c4; go_simp⟩) ?_
          simp only [s0, s1, s2]
          refine Q_W 14 68 32255 (.slice An C cn) rfl HS.out ?_
          simp only [s0, s1, s2]
          refine Q_W 15 69 65023 (.int .i64 (j : Int)) rfl HS.out ?_
          simp only [s0, s1, s2]
          refine Q_W 16 70 130559 (.pointer (some (adr An j))) rfl HS.out ?_
          simp only [s0, s1, s2]
          refine Q_T 17 71 261631 (.int .i64 (e : Int)) [] rfl HS.out (.inl ⟨by rfl, fun W hS => by have h1 := hS.e; go_simp⟩) ?_
          simp only [s0, s1, s2]
          refine Q_1S 9 262143 rfl (fun K hK => ?_)
          go_simp
          refine (rfil_any (n + 24) j _).mono ?_
          rintro en wa ⟨rfl, hBa⟩
          have HSa := Lib.hid (HS.out.below hBa)
          have HBa := Lib.hid (((Below.refl wr.heap.size wr).drew).trans hBa)
          clear hBa
          refine hK _ _ HSa.out ?_
          clear hK K
          refine Q_1 18 524287 rfl (fun K hK => ?_)
          go_simp
          refine (HPO.out _).mono ?_
          rintro en wb ⟨hBb, h⟩
          rcases h with ⟨hne, hu0, rfl⟩ | ⟨hor, Ap, cp, T, hlen, rfl, hOp⟩
          · exact absurd hu0 (HNB.out hne)
          have HBb := Lib.hid (HBa.out.trans (hBb.mono HBa.out.size))
          have HLN := Lib.hid hlen
          have HOp := Lib.hid (Ownv.mono hOp HBa.out.size)
          have HTE := Lib.hid (pick_of HBL.out hor hlen)
          clear hBb hlen hOp hor
          refine hK _ _ ?_
          clear hK K
          refine Q_X 19 53 1048575 (.tuple #[.slice Ap e cp, .int .i64 0]) rfl ?_
          simp only [s0, s1, s2]
          refine Q_X 20 73 2097151 (.slice Ap e cp) rfl ?_
          simp only [s0, s1, s2]
          refine Q_X 21 74 4194303 (.int .i64 0) rfl ?_
          simp only [s0, s1, s2]
          refine Q_1 22 8388607 rfl (fun K hK => ?_)
          go_simp
          refine hK _ _ ?_
          clear hK K
          refine Q_1 23 16777215 rfl (fun K hK => ?_)
          go_simp
          refine hK _ _ ?_
          clear hK K
          refine Q_end ?_
          have HR6 := Lib.hid (Rdv.below HRs.out HBb.out)
          have HO5 := Lib.hid (Ownv.below HO.out HBb.out)
          have HBq := Lib.hid (HB.out.trans (HBb.out.mono HB.out.size))
          have HOp := Lib.hid (Ownv.mono HOp.out HB.out.size)
          obtain ⟨L, hL⟩ : ∃ L, selL B st Z T = L := ⟨_, rfl⟩
          have HLL : Hid (∀ q, q < e → 0 ≤ gi L q ∧ gi L q < (s.n : Int)) := Lib.hid (fun q hq => by
            have h9 := selL_mem (B := B) (st := st) (N := Z) HZB.out.1 (Nat.le_of_eq HBL.out) T _ (gi_mem (selL B st Z T) q (by have := HLN.out; omega))
            rw [hL] at h9
            exact ⟨h9.1, HBD.out _ h9.2⟩)
          have HRW : Hid (∀ q, q < e → gi row q = gi s.xs (gi L q).toNat) := Lib.hid (fun q hq => by
            have h8 := HLN.out
            rw [HRX.out, ← HTE.out, hL]
            rw [hL] at h8
            rw [gi_eq _ q (by rw [List.length_map]; omega), List.getElem_map, gi_eq L q (by omega)])
          rw [hL] at HOp
          clear hL HLN HTE HO HB
          go_wp2_with fail
          go_loopw [11, 15] (fun o i wr => ReK W5 F pre row e Ap cp L o i wr) (fun _ i _ => e - (intOf i).toNat)
          case atStart => exact ⟨0, A6, c6, by omega, rfl, rfl, by have := HO5.out; unfold Own; simpa using this, HOp.out, HBq.out⟩
          case round =>
            obtain ⟨x, A6, c6, hxe, rfl, rfl, hO6, hOp6, hB6⟩ := hrel
            have HO6 := Lib.hid hO6
            have HOp6 := Lib.hid hOp6
            have HB6 := Lib.hid hB6
            by_cases hlx : x < e
            · have hpp := HLL.out x hlx
              obtain ⟨p, hp⟩ : ∃ p : Nat, gi L x = (p : Int) := ⟨(gi L x).toNat, by omega⟩
              have cp := Rd.cell (Own.rd hOp6) (j := x) hlx
              rw [hp] at cp hpp
              have hpn : p < s.n := by omega
              have hL9 := HL5.out.below hB6
              have hRw := hL9.r s (List.mem_of_getElem? HSJ.out)
              have hcw : wr.cell? (adr Aw j) = some (.slice s.A s.n s.c) := hL9.o.at_ j _ (by rw [List.getElem?_map, HSJ.out]; rfl)
              have cv := Rd.cell hRw (j := p) hpn
              obtain ⟨v, hv⟩ : ∃ v, v = gi s.xs p := ⟨_, rfl⟩
              rw [← hv] at cv
              have ixp := fun W => Rdv.ix (Own.rd hOp6) el34 (j := x) hlx .i64 W
              have ixs := fun W => Rdv.ix hRw el53 (j := p) hpn .i64 W
              have HS2 : Hid (Re2 (adr Aw j) s (adr Ap x) p (adr s.A p) v wr.drew) := Lib.hid ⟨hcw, cp, cv⟩
              have HVX : Hid (row.take (x + 1) = row.take x ++ [v]) := Lib.hid (by
                have h7 := HRW.out x hlx
                rw [hp] at h7
                rw [take_gi (by rw [HRL.out]; exact hlx), h7, hv]; rfl)
              clear hL9 hRw hcw cv hv cp hp hpp hO6 hOp6 hB6
              go_wp2_with fail
              refine Q_start (Re2 (adr Aw j) s (adr Ap x) p (adr s.A p) v) 11 14 ?_
              refine Q_W 0 81 1 (.slice A6 (F + x) c6) rfl HS2.out ?_
              simp only [s0, s1, s2]
              refine Q_W 1 82 3 (.slice Aw C cw) rfl HS2.out ?_
              simp only [s0, s1, s2]
              refine Q_W 2 83 7 (.int .i64 (j : Int)) rfl HS2.out ?_
              simp only [s0, s1, s2]
              refine Q_W 3 84 15 (.pointer (some (adr Aw j))) rfl HS2.out ?_
              simp only [s0, s1, s2]
              refine Q_T 4 85 31 (.slice s.A s.n s.c) [10, 9] rfl HS2.out (.inl ⟨by rfl, fun W hS => by have h1 := hS.s; go_simp⟩) ?_
              simp only [s0, s1, s2]
              refine Q_W 5 86 63 (.slice Ap e cp) rfl HS2.out ?_
              simp only [s0, s1, s2]
              refine Q_W 6 87 127 (.int .i64 (x : Int)) rfl HS2.out ?_
              simp only [s0, s1, s2]
              refine Q_W 7 88 255 (.pointer (some (adr Ap x))) rfl HS2.out ?_
              simp only [s0, s1, s2]
              refine Q_T 8 89 511 (.int .i64 (p : Int)) [10, 9] rfl HS2.out (.inl ⟨by rfl, fun W hS => by have h1 := hS.p; go_simp⟩) ?_
              simp only [s0, s1, s2]
              refine Q_W 9 90 1023 (.pointer (some (adr s.A p))) rfl HS2.out ?_
              simp only [s0, s1, s2]
              refine Q_T 10 91 2047 (.int .u8 v) [] rfl HS2.out (.inl ⟨by rfl, fun W hS => by have h1 := hS.v; go_simp⟩) ?_
              simp only [s0, s1, s2]
              refine Q_1 11 4095 rfl (fun K hK => ?_)
              go_simp
              refine hK _ _ ?_
              clear hK K
              refine Q_1 12 8191 rfl (fun K hK => ?_)
              refine wp_app1d (w := wr) (base := W5.heap.size) _ _ 25 rfl el53 rfl (.int .u8 v) rfl rfl HO6.out (by omega) (by omega) HB6.out.size ?_
              intro A7 c7 w7 hO7 hg7
              have HO7 := Lib.hid hO7
              have HG7 := Lib.hid hg7
              clear hO7 hg7
              refine hK _ _ ?_
              clear hK K
              refine Q_1 13 16383 rfl (fun K hK => ?_)
              go_simp
              refine hK _ _ ?_
              clear hK K
              refine Q_end ?_
              have HOP7 := Lib.hid (Ownv.grown HOp6.out HG7.out (fun hA => rows_ne HOp6.out HO6.out (by decide) hA))
              have HB7 := Lib.hid (HB6.out.grown HG7.out HB6.out.size (fun k hk => Ownv.ob' HO6.out hk))
              have HO8 : Hid (Own .u8 5 w7 W5.heap.size A7 (F + (x + 1)) c7 (pre ++ row.take (x + 1))) := Lib.hid (Own.of_eq HO7.out rfl (by rw [HVX.out, ← List.append_assoc, List.map_append (l₂ := [v])]; rfl))
              go_wp2
              go_roundw
              case rel => exact ⟨x + 1, A7, c7, by omega, by go_num, by rfl, HO8.out, HOP7.out, HB7.out⟩
              case measure => simp [intOf]; omega
            · obtain rfl : x = e := by omega
              have HO8 : Hid (Own .u8 5 wr W5.heap.size A6 (offS C g m (j + 1)) c6 ((List.range (j + 1)).flatMap (rowX (n + 24) lm C g m rv xs))) := Lib.hid (by
                rw [HOS.out, HFM.out]
                have h7 := HO6.out
                rw [List.take_of_length_le (Nat.le_of_eq HRL.out)] at h7
                exact h7)
              clear hO6 hOp6 hB6
              go_wp2
              go_roundw
              case rel => exact ⟨j + 1, A6, c6, by omega, by go_num, by rw [HOS.out], HO8.out, HB6.out⟩
              case measure => simp [intOf]; omega
        · obtain rfl : j = C := by omega
          subst hCB
          have HEX := Lib.hid (ex_ok (b := n + 24) (lim := lm) (g := g) (m := m) (rv := rv) HE.out HOK.out)
          have HBW := Lib.hid (HB5.out.trans (HB.out.mono HB5.out.size))
          have HOW := Lib.hid (Ownv.mono HO.out HB5.out.size)
          clear hO hB
          generalize offS j g m j = T at *
          go_wp2
          go_ret2
          exact ⟨A6, T, c6, by rw [HEX.out.1]; rfl, by rw [HEX.out.2]; exact HOW.out, HBW.out⟩
    · have hr1 : r = false := by simpa using hr0
      subst hr1
      have HEX := Lib.hid (ex_bad (b := n + 24) (lim := lm) (C := C) (g := g) (m := m) (rv := rv) HE.out (Classical.byContradiction fun hn => by
        have := HR.out.2 (fun q hq hb => hn ⟨q, hq, hb⟩)
        cases this))
      have HB4 := Lib.hid (HB2.out.trans (HB3.out.mono HB2.out.size))
      go_wp2
      go_ret2
      exact ⟨none, 0, 0, by rw [HEX.out.1]; rfl, by rw [HEX.out.2]; exact Own.nilv _ _ _ _, HB4.out⟩
  · have HE := Lib.hid (ex_err (b := n + 24) (lim := lm) (C := C) (g := g) (m := m) (rv := rv) hE)
    have hq := bne_t hE
    generalize bE xs = E at *
    clear hE hbt hCe hmm hgm hy hx HU HLY hC1 hC2 hlm hrv hs1 HSH HOF
    go_enter Tryz.func15, Tryz.ntmps15
    go_wp2_with (first
      | (refine ldrow (cs := [.int .i64 n, .int .i64 bt, .int .i64 m, .int .i64 lm, .int .i64 (rv : Int)]) rfl 40 (.tmp 2) rfl rfl hc0 _ Tryz.underlying40 rfl (by kernel_rfl) ?_)
      | (go_at_call 32; refine (HS.out _).mono ?_; rintro e w1 ⟨An, cn, rfl, hO1, hB1⟩
         have k0 := (HC0.out.below hB1).cell (j := 0) (v := .int .i64 n) rfl
         have HX1 := Lib.hid (Rdv.below HX0.out hB1)
         have HB1 := Lib.hid (HB0.out.trans (hB1.mono HB0.out.size))
         clear hO1 hB1 hc0)
      | (go_at_call 10; refine (HW.out _ HX1.out).mono ?_; rintro e w2 ⟨Aw, n2, cw, L2, rfl, hn2, hBL2, hxs2, hB2⟩
         have HB2 := Lib.hid (HB1.out.trans (hB2.mono HB1.out.size))
         clear hn2 hBL2 hxs2 hB2 k0 HX1 HB1))
    go_ret2
    exact ⟨none, 0, 0, by rw [HE.out.1]; rfl, by rw [HE.out.2]; exact Own.nilv _ _ _ _, HB2.out⟩
end Go.Proofs.YtcbbkflnenkpgaaGreat

namespace Go.Proofs.YtcbbkflnenkpgaaGreat
open Go.Joins Go.ChangeShapes Go.WideShapes Go.RowKit Go.Deep Go.WideElems Go.Maps
set_option linter.unusedVariables false
section
variable {H : Type} {enc : TypeId × Value → H} {P : Program} {w : World} {base : Nat} {spare : Nat → Bool} {held : Bool}
theorem array5x {α : Type} {cs : Array α} (h : cs.size = 5) : ∃ c0 c1 c2 c3 c4, cs = #[c0, c1, c2, c3, c4] := by
  obtain ⟨l⟩ := cs
  match l, h with
  | [c0, c1, c2, c3, c4], _ => exact ⟨c0, c1, c2, c3, c4, rfl⟩
theorem trod_struct5 {t : TypeId} {f0 f1 f2 f3 f4 : Field} {fuel : Nat} {cs : List Value} {x : DataW H × List MemPlace} (ht : P.underlying t = some (.struct #[f0, f1, f2, f3, f4])) (h : DataW.trod enc P w base spare held fuel t cs = some x) :
    ∃ y0 y1 y2 y3 y4 n, x = (.agg [y0.1, y1.1, y2.1, y3.1, y4.1], y0.2 ++ (y1.2 ++ (y2.2 ++ (y3.2 ++ y4.2)))) ∧ cs.length = P.cellsOf t ∧ DataW.trod enc P w base spare held n f0.type ((cs.drop f0.offset).take (P.cellsOf f0.type)) = some y0 ∧ DataW.trod enc P w base spare held n f1.type ((cs.drop f1.offset).take (P.cellsOf f1.type)) = some y1 ∧ DataW.trod enc P w base spare held n f2.type ((cs.drop f2.offset).take (P.cellsOf f2.type)) = some y2 ∧ DataW.trod enc P w base spare held n f3.type ((cs.drop f3.offset).take (P.cellsOf f3.type)) = some y3 ∧ DataW.trod enc P w base spare held n f4.type ((cs.drop f4.offset).take (P.cellsOf f4.type)) = some y4 := by
  obtain ⟨xs, n, _, rfl, hl, hlen, hf⟩ := DataW.trod_struct ht h
  match xs, hlen with
  | [y0, y1, y2, y3, y4], _ => exact ⟨y0, y1, y2, y3, y4, n, by simp, hl, by simpa using hf 0 f0 rfl, by simpa using hf 1 f1 rfl, by simpa using hf 2 f2 rfl, by simpa using hf 3 f3 rfl, by simpa using hf 4 f4 rfl⟩
theorem trod_struct5_mk {t : TypeId} {f0 f1 f2 f3 f4 : Field} {n : Nat} {cs : List Value} {y0 y1 y2 y3 y4 : DataW H × List MemPlace} (ht : P.underlying t = some (.struct #[f0, f1, f2, f3, f4])) (hl : cs.length = P.cellsOf t)
    (h0 : DataW.trod enc P w base spare held n f0.type ((cs.drop f0.offset).take (P.cellsOf f0.type)) = some y0) (h1 : DataW.trod enc P w base spare held n f1.type ((cs.drop f1.offset).take (P.cellsOf f1.type)) = some y1) (h2 : DataW.trod enc P w base spare held n f2.type ((cs.drop f2.offset).take (P.cellsOf f2.type)) = some y2) (h3 : DataW.trod enc P w base spare held n f3.type ((cs.drop f3.offset).take (P.cellsOf f3.type)) = some y3) (h4 : DataW.trod enc P w base spare held n f4.type ((cs.drop f4.offset).take (P.cellsOf f4.type)) = some y4) :
    DataW.trod enc P w base spare held (n + 1) t cs = some (.agg [y0.1, y1.1, y2.1, y3.1, y4.1], y0.2 ++ (y1.2 ++ (y2.2 ++ (y3.2 ++ y4.2)))) := by
  have := trod_struct_mk (enc := enc) (w := w) (base := base) (spare := spare) (held := held) (n := n) (xs := [y0, y1, y2, y3, y4]) ht hl (by simp [h0, h1, h2, h3, h4])
  simpa using this
theorem open_agg5 {r : Reach} {b0 : Nat} {t : TypeId} {f0 f1 f2 f3 f4 : Field} {v : Value} {d : DataW H} {p : List MemPlace} (hs : P.underlying t = some (.struct #[f0, f1, f2, f3, f4])) (hone : oneCellFields P #[f0, f1, f2, f3, f4] = true) (hC : P.cellsOf t = 5)
    (hv : Value.okWide P w r b0 t v) (h : DataW.Trod enc P w base spare held t v d p) :
    ∃ (v0 v1 v2 v3 v4 : Value) (y0 y1 y2 y3 y4 : DataW H × List MemPlace) (n : Nat), v = .agg #[v0, v1, v2, v3, v4] ∧ d = .agg [y0.1, y1.1, y2.1, y3.1, y4.1] ∧ p = y0.2 ++ (y1.2 ++ (y2.2 ++ (y3.2 ++ y4.2))) ∧ DataW.trod enc P w base spare held n f0.type [v0] = some y0 ∧ DataW.trod enc P w base spare held n f1.type [v1] = some y1 ∧ DataW.trod enc P w base spare held n f2.type [v2] = some y2 ∧ DataW.trod enc P w base spare held n f3.type [v3] = some y3 ∧ DataW.trod enc P w base spare held n f4.type [v4] = some y4 := by
  obtain ⟨cs, rfl, hsz⟩ := okWide_struct hs hv
  obtain ⟨c0, c1, c2, c3, c4, rfl⟩ := array5x (hsz.trans hC)
  obtain ⟨fuel, hf⟩ := h
  obtain ⟨y0, y1, y2, y3, y4, n, hx, _, h0, h1, h2, h3, h4⟩ := trod_struct5 hs hf
  obtain ⟨o0, k0⟩ := hone_of hone 0 f0 rfl
  obtain ⟨o1, k1⟩ := hone_of hone 1 f1 rfl
  obtain ⟨o2, k2⟩ := hone_of hone 2 f2 rfl
  obtain ⟨o3, k3⟩ := hone_of hone 3 f3 rfl
  obtain ⟨o4, k4⟩ := hone_of hone 4 f4 rfl
  simp only [Prod.mk.injEq] at hx
  exact ⟨c0, c1, c2, c3, c4, y0, y1, y2, y3, y4, n, rfl, hx.1, hx.2, by simpa [Value.cells, o0, k0] using h0, by simpa [Value.cells, o1, k1] using h1, by simpa [Value.cells, o2, k2] using h2, by simpa [Value.cells, o3, k3] using h3, by simpa [Value.cells, o4, k4] using h4⟩
theorem shut_agg5 {t : TypeId} {f0 f1 f2 f3 f4 : Field} {v0 v1 v2 v3 v4 : Value} {y0 y1 y2 y3 y4 : DataW H × List MemPlace} (hs : P.underlying t = some (.struct #[f0, f1, f2, f3, f4])) (hone : oneCellFields P #[f0, f1, f2, f3, f4] = true) (hC : P.cellsOf t = 5)
    (t0 : ∃ n, DataW.trod enc P w base spare held n f0.type [v0] = some y0) (t1 : ∃ n, DataW.trod enc P w base spare held n f1.type [v1] = some y1) (t2 : ∃ n, DataW.trod enc P w base spare held n f2.type [v2] = some y2) (t3 : ∃ n, DataW.trod enc P w base spare held n f3.type [v3] = some y3) (t4 : ∃ n, DataW.trod enc P w base spare held n f4.type [v4] = some y4) :
    DataW.Trod enc P w base spare held t (.agg #[v0, v1, v2, v3, v4]) (.agg [y0.1, y1.1, y2.1, y3.1, y4.1]) (y0.2 ++ (y1.2 ++ (y2.2 ++ (y3.2 ++ y4.2)))) := by
  obtain ⟨n0, t0⟩ := t0
  obtain ⟨n1, t1⟩ := t1
  obtain ⟨n2, t2⟩ := t2
  obtain ⟨n3, t3⟩ := t3
  obtain ⟨n4, t4⟩ := t4
  obtain ⟨o0, k0⟩ := hone_of hone 0 f0 rfl
  obtain ⟨o1, k1⟩ := hone_of hone 1 f1 rfl
  obtain ⟨o2, k2⟩ := hone_of hone 2 f2 rfl
  obtain ⟨o3, k3⟩ := hone_of hone 3 f3 rfl
  obtain ⟨o4, k4⟩ := hone_of hone 4 f4 rfl
  have ts := trod_struct5_mk (enc := enc) (w := w) (base := base) (spare := spare) (held := held) (n := n0 + n1 + n2 + n3 + n4) (cs := [v0, v1, v2, v3, v4]) hs (by simp [hC])
    (by simpa [o0, k0] using DataW.trod_le (show n0 ≤ n0 + n1 + n2 + n3 + n4 by omega) t0) (by simpa [o1, k1] using DataW.trod_le (show n1 ≤ n0 + n1 + n2 + n3 + n4 by omega) t1) (by simpa [o2, k2] using DataW.trod_le (show n2 ≤ n0 + n1 + n2 + n3 + n4 by omega) t2) (by simpa [o3, k3] using DataW.trod_le (show n3 ≤ n0 + n1 + n2 + n3 + n4 by omega) t3) (by simpa [o4, k4] using DataW.trod_le (show n4 ≤ n0 + n1 + n2 + n3 + n4 by omega) t4)
  exact ⟨_, by simpa [Value.cells] using ts⟩
end

end Go.Proofs.YtcbbkflnenkpgaaGreat

namespace Go.Proofs.YtcbbkflnenkpgaaGreat
open Go.RowKit Go.Shelf
set_option linter.unusedVariables false
attribute [local go_sem] Oper.semAt_some
/-- the error of a transmission -/
def enE (sz bt md lm rv : Int) (xs : List Int) : Int := if VC sz bt md lm rv = true ∧ (xs.length : Int) = sz then exE (xs.length + 24) lm (bC (xs.length + 24)) (bt / md).toNat md.toNat xs else 2
/-- the transmission -/
def enD (sz bt md lm rv : Int) (xs : List Int) : List Int := if VC sz bt md lm rv = true ∧ (xs.length : Int) = sz then exD (xs.length + 24) lm (bC (xs.length + 24)) (bt / md).toNat md.toNat rv.toNat xs else []
def EnAll (sz bt md lm rv : Int) (xs : List Int) (w : World) (en : Ending) (w' : World) : Prop :=
  ∃ A n c, en = .returned (.tuple #[.slice A n c, .int .i64 (enE sz bt md lm rv xs)]) ∧ Own .u8 5 w' w.heap.size A n c (enD sz bt md lm rv xs) ∧ Below w.heap.size w w'
theorem en_in {n g m r : Nat} {lm : Int} {xs : List Int} (hl : xs.length = n) (hV : VC (n : Int) ((m * g : Nat) : Int) (m : Int) lm (r : Int) = true) (hm : 0 < m) :
    enE (n : Int) ((m * g : Nat) : Int) (m : Int) lm (r : Int) xs = exE (n + 24) lm (bC (n + 24)) g m xs ∧ enD (n : Int) ((m * g : Nat) : Int) (m : Int) lm (r : Int) xs = exD (n + 24) lm (bC (n + 24)) g m r xs := by
  have hg : (((m * g : Nat) : Int) / (m : Int)).toNat = g := by
    rw [Int.natCast_mul, Int.mul_ediv_cancel_left _ (by omega)]; rfl
  unfold enE enD
  rw [if_pos ⟨hV, by omega⟩, if_pos ⟨hV, by omega⟩, hg, hl]
  exact ⟨rfl, rfl⟩
theorem en_out {sz bt md lm rv : Int} {xs : List Int} (h : ¬ (VC sz bt md lm rv = true ∧ (xs.length : Int) = sz)) : enE sz bt md lm rv xs = 2 ∧ enD sz bt md lm rv xs = [] := by
  unfold enE enD
  rw [if_neg h, if_neg h]
  exact ⟨rfl, rfl⟩
theorem enD_len {sz bt md lm rv : Int} {xs : List Int} (h : enE sz bt md lm rv xs = 0) : ((enD sz bt md lm rv xs).length : Int) = bt := by
  by_cases hc : VC sz bt md lm rv = true ∧ (xs.length : Int) = sz
  · obtain ⟨hV, hn⟩ := hc
    obtain ⟨s, g, m, rfl, rfl, rfl, hs1, hs2, hm, hgm, hlm, hrv1, hrv2⟩ := VC_true hV
    obtain ⟨r, rfl⟩ := Int.eq_ofNat_of_zero_le hrv1
    have hl : xs.length = s := by omega
    have e := en_in hl hV (show 0 < m by omega)
    rw [e.1] at h
    rw [e.2]
    unfold exE at h
    split at h
    · rename_i h0
      split at h
      · cases h
      · rename_i hb
        have hok : ∀ q, q < bC (s + 24) → ¬ bad49 (s + 24) lm (bC (s + 24)) g m q := fun q hq hx => hb (badX_t.2 ⟨q, hq, hx⟩)
        rw [(ex_ok h0 hok).2, rowsX_len hlm hok _ (Nat.le_refl _), offS_all _ _ _ bC_pos]
    · contradiction
  · rw [(en_out hc).1] at h; cases h

theorem enc_all (sz bt md lm rv : Int) (A : Option Addr) (n c : Nat) (xs : List Int) (w : World) (hx : Rd .u8 w A n c xs) (hy : Byt xs) : Calls Tryz.prog 14 #[.agg #[.int .i64 sz, .int .i64 bt, .int .i64 md, .int .i64 lm, .int .i64 rv], .slice A n c] w (EnAll sz bt md lm rv xs w) := by
  have hl := hx.len
  by_cases h : VC sz bt md lm rv = true ∧ (n : Int) = sz
  · obtain ⟨hV, hn⟩ := h
    obtain ⟨s, g, m, rfl, rfl, rfl, hs1, hs2, hm, hgm, hlm, hrv1, hrv2⟩ := VC_true hV
    obtain rfl : n = s := by omega
    obtain ⟨r, rfl⟩ := Int.eq_ofNat_of_zero_le hrv1
    have e := en_in hl hV (show 0 < m by omega)
    unfold EnAll
    rw [e.1, e.2]
    exact enc_ok n _ g m r lm A n c xs w hs1 hs2 rfl hm hgm hlm (by omega) rfl hx hy
  · have e := en_out (xs := xs) (sz := sz) (bt := bt) (md := md) (lm := lm) (rv := rv) (by rw [hl]; exact h)
    refine (enc_bad sz bt md lm rv A n c w ?_).mono ?_
    · by_cases hV : VC sz bt md lm rv = true
      · exact .inr fun hn => h ⟨hV, hn⟩
      · exact .inl (by simpa using hV)
    · rintro en w' ⟨rfl, hB⟩
      exact ⟨none, 0, 0, by rw [e.1], by rw [e.2]; exact Own.nilv _ _ _ _, hB⟩

theorem renc_all (sz bt md lm rv : Int) (A : Option Addr) (n c : Nat) (xs : List Int) (w : World) (hx : Rd .u8 w A n c xs) (hy : Byt xs) : Calls Tryz.prog 15 #[.agg #[.int .i64 sz, .int .i64 bt, .int .i64 md, .int .i64 lm, .int .i64 rv], .slice A n c] w (EnAll sz bt md lm rv xs w) := by
  have hl := hx.len
  by_cases h : VC sz bt md lm rv = true ∧ (n : Int) = sz
  · obtain ⟨hV, hn⟩ := h
    obtain ⟨s, g, m, rfl, rfl, rfl, hs1, hs2, hm, hgm, hlm, hrv1, hrv2⟩ := VC_true hV
    obtain rfl : n = s := by omega
    obtain ⟨r, rfl⟩ := Int.eq_ofNat_of_zero_le hrv1
    have e := en_in hl hV (show 0 < m by omega)
    unfold EnAll
    rw [e.1, e.2]
    exact renc_ok n _ g m r lm A c xs w hs1 hs2 rfl hm hgm hlm (by omega) hx hy
  · have e := en_out (xs := xs) (sz := sz) (bt := bt) (md := md) (lm := lm) (rv := rv) (by rw [hl]; exact h)
    refine (renc_bad sz bt md lm rv A n c w ?_).mono ?_
    · by_cases hV : VC sz bt md lm rv = true
      · exact .inr fun hn => h ⟨hV, hn⟩
      · exact .inl (by simpa using hV)
    · rintro en w' ⟨rfl, hB⟩
      exact ⟨none, 0, 0, by rw [e.1], by rw [e.2]; exact Own.nilv _ _ _ _, hB⟩
set_option maxRecDepth 100000 in
set_option maxHeartbeats 2000000 in
theorem encodes_law (sz bt md lm rv : Int) (l s a y : Int) (w : World) (hyy : 0 ≤ y ∧ y < 256) :
    Calls Tryz.prog 4 #[.agg #[.int .i64 sz, .int .i64 bt, .int .i64 md, .int .i64 lm, .int .i64 rv], .agg #[.int .i64 l, .int .u32 s, .int .i64 a, .int .u8 y]] w fun e w' => e = .returned (.bool true) ∧ Below w.heap.size w w' := by
  have HP := Lib.hid (fun W => bits15_any l s a y W hyy)
  have HEN := Lib.hid (fun A n c xs W hx hy => enc_all sz bt md lm rv A n c xs W hx hy)
  have HRE := Lib.hid (fun A n c xs W hx hy => renc_all sz bt md lm rv A n c xs W hx hy)
  have hc0 : Blk ((w.alloc (.cells [Value.int .i64 sz, .int .i64 bt, .int .i64 md, .int .i64 lm, .int .i64 rv].toArray 40)).alloc (.cells [Value.int .i64 l, .int .u32 s, .int .i64 a, .int .u8 y].toArray 24)) w.heap.size 40 [.int .i64 sz, .int .i64 bt, .int .i64 md, .int .i64 lm, .int .i64 rv] := (Blk.new w [.int .i64 sz, .int .i64 bt, .int .i64 md, .int .i64 lm, .int .i64 rv] 40 rfl).alloc (.cells [Value.int .i64 l, .int .u32 s, .int .i64 a, .int .u8 y].toArray 24)
  have hp0 : Blk ((w.alloc (.cells [Value.int .i64 sz, .int .i64 bt, .int .i64 md, .int .i64 lm, .int .i64 rv].toArray 40)).alloc (.cells [Value.int .i64 l, .int .u32 s, .int .i64 a, .int .u8 y].toArray 24)) (w.heap.size + 1) 24 [.int .i64 l, .int .u32 s, .int .i64 a, .int .u8 y] := Blk.new (w.alloc _) [.int .i64 l, .int .u32 s, .int .i64 a, .int .u8 y] 24 (by simp)
  have HC0 := Lib.hid hc0
  have HB0 := Lib.hid (((Below.refl _ w).alloc (Nat.le_refl _) (.cells [Value.int .i64 sz, .int .i64 bt, .int .i64 md, .int .i64 lm, .int .i64 rv].toArray 40)).alloc (by simp) (.cells [Value.int .i64 l, .int .u32 s, .int .i64 a, .int .u8 y].toArray 24))
  clear hyy
  go_enter Tryz.func4, Tryz.ntmps4
  go_wp2_with (first
    | (refine ldrow (cs := [.int .i64 l, .int .u32 s, .int .i64 a, .int .u8 y]) rfl 24 (.tmp 3) rfl rfl hp0 _ Tryz.underlying24 rfl (by kernel_rfl) ?_)
    | (go_at_call 7; refine (HP.out _).mono ?_; rintro e w1 ⟨m, A1, xs, hm, rfl, hO1, hby, hB1⟩; have HO1 := Lib.hid (Own.rd hO1); have HBY1 := Lib.hid hby; have HC1 := Lib.hid (HC0.out.below hB1); have HB1 := Lib.hid (HB0.out.trans (hB1.mono HB0.out.size)); clear hO1 hby hB1 hc0 hp0)
    | (go_at_call 8; refine (own8_any A1 m m xs w1 HO1.out (by omega)).mono ?_; rintro e w2 ⟨A2, c2, rfl, hO2, hB2⟩; have HO2 := Lib.hid (Own.rd hO2); have HO12 := Lib.hid (Rdv.below HO1.out hB2); have hc2 := HC1.out.below hB2; have HC2 := Lib.hid hc2; have HB2 := Lib.hid (HB1.out.trans (hB2.mono HB1.out.size)); clear hO2 hB2)
    | (refine ldrow (cs := [.int .i64 sz, .int .i64 bt, .int .i64 md, .int .i64 lm, .int .i64 rv]) rfl 40 (.tmp 2) rfl rfl hc2 _ Tryz.underlying40 rfl (by kernel_rfl) ?_))
  refine (HEN.out A2 m c2 xs w2 HO2.out HBY1.out).mono ?_
  rintro e w3 ⟨A3, n3, c3, rfl, hO3, hB3⟩
  have HO13 := Lib.hid (Rdv.below HO12.out hB3)
  have HO23 := Lib.hid (Rdv.below HO2.out hB3)
  have HO3 := Lib.hid (Own.rd hO3)
  have hc3 := HC2.out.below hB3
  have HC3 := Lib.hid hc3
  have HB3 := Lib.hid (HB2.out.trans (hB3.mono HB2.out.size))
  clear hO3 hB3 HO12 HO2 HO1 hc2
  go_wp2_with (refine ldrow (cs := [.int .i64 sz, .int .i64 bt, .int .i64 md, .int .i64 lm, .int .i64 rv]) rfl 40 (.tmp 2) rfl rfl hc3 _ Tryz.underlying40 rfl (by kernel_rfl) ?_)
  refine (HRE.out A1 m m xs w3 HO13.out HBY1.out).mono ?_
  rintro e w4 ⟨A4, n4, c4, rfl, hO4, hB4⟩
  have HO14 := Lib.hid (Rdv.below HO13.out hB4)
  have HO24 := Lib.hid (Rdv.below HO23.out hB4)
  have HO34 := Lib.hid (Rdv.below HO3.out hB4)
  have HO4 := Lib.hid (Own.rd hO4)
  have HC4 := Lib.hid (HC3.out.below hB4)
  have HB4 := Lib.hid (HB3.out.trans (hB4.mono HB3.out.size))
  have hn3 := Rd.len HO34.out
  clear hO4 hB4 HO13 HO23 HO3 hc3
  by_cases hE : enE sz bt md lm rv xs = 0
  · have hbl : (n3 : Int) = bt := by rw [← hn3]; exact enD_len hE
    clear hn3
    have hq0 := bne_f (show enE sz bt md lm rv xs = 0 from hE)
    have hq1 : ((n3 : Int) == bt) = true := beq_t hbl
    have hk1 := HC4.out.cell (j := 1) (v := .int .i64 bt) rfl
    generalize enE sz bt md lm rv xs = E at *
    go_wp2_with fail
    refine (same_any A3 A4 _ c3 _ c4 (enD sz bt md lm rv xs) (enD sz bt md lm rv xs) w4 HO34.out HO4.out).mono ?_
    rintro e w5 ⟨he, q5, rfl⟩
    rw [decide_eq_true rfl] at he
    subst he
    have hk2 : (w4.drewN q5).cell? ⟨w.heap.size, 1, none⟩ = some (.int .i64 bt) := hk1
    go_wp2_with fail
    refine (same_any A2 A1 m c2 m m xs xs _ (Rdv.drewN HO24.out q5) (Rdv.drewN HO14.out q5)).mono ?_
    rintro e w6 ⟨he, q6, rfl⟩
    rw [decide_eq_true rfl] at he
    subst he
    have HBV : Hid (Below w.heap.size w (w4.drewN (q5 + q6))) := Lib.hid (HB4.out.trans (Qt.below ⟨q5 + q6, rfl⟩ w.heap.size))
    go_wp2_with fail
    refine (known_any _).mono ?_
    rintro e w9 ⟨rfl, hB9⟩
    have HBX := Lib.hid (HBV.out.trans (hB9.mono HBV.out.size))
    clear hB9
    go_wp2
    go_ret
    exact ⟨rfl, HBX.out⟩
  · clear hn3
    have hq0 := bne_t (show enE sz bt md lm rv xs ≠ 0 from hE)
    have hk1 := HC4.out.cell (j := 1) (v := .int .i64 bt) rfl
    generalize enE sz bt md lm rv xs = E at *
    go_wp2_with fail
    refine (same_any A3 A4 _ c3 _ c4 (enD sz bt md lm rv xs) (enD sz bt md lm rv xs) w4 HO34.out HO4.out).mono ?_
    rintro e w5 ⟨he, q5, rfl⟩
    rw [decide_eq_true rfl] at he
    subst he
    have hk2 : (w4.drewN q5).cell? ⟨w.heap.size, 1, none⟩ = some (.int .i64 bt) := hk1
    go_wp2_with fail
    refine (same_any A2 A1 m c2 m m xs xs _ (Rdv.drewN HO24.out q5) (Rdv.drewN HO14.out q5)).mono ?_
    rintro e w6 ⟨he, q6, rfl⟩
    rw [decide_eq_true rfl] at he
    subst he
    have HBV : Hid (Below w.heap.size w (w4.drewN (q5 + q6))) := Lib.hid (HB4.out.trans (Qt.below ⟨q5 + q6, rfl⟩ w.heap.size))
    go_wp2_with fail
    refine (known_any _).mono ?_
    rintro e w9 ⟨rfl, hB9⟩
    have HBX := Lib.hid (HBV.out.trans (hB9.mono HBV.out.size))
    clear hB9
    go_wp2
    go_ret
    exact ⟨rfl, HBX.out⟩
end Go.Proofs.YtcbbkflnenkpgaaGreat

