/- Bundle. Conditions: none. -/
import Derived.Test.YtkdfefpnhaebfaaGreatBuobt
set_option linter.unusedVariables false
set_option linter.unusedSimpArgs false
namespace Go.Proofs.YtkdfefpnhaebfaaGreat.Cr
open Go.RowKit Go.Shelf
def pick (B : List Int) (st N e : Nat) : List Int := (selL B st N (e * N)).take e
theorem selL_big {B : List Int} {st N e : Nat} (hN : N = B.length) (hu : usC B ≠ 0) : e ≤ (selL B st N (e * N)).length := by
 obtain ⟨j, hj, h⟩ := usC_ne.1 hu
 exact selL_many (by omega) h e
theorem pick_of {B : List Int} {st N e T : Nat} (hN : N = B.length) (hu : e = 0 ∨ usC B ≠ 0) (hT : (selL B st N T).length = e) : selL B st N T = pick B st N e := by
 rcases hu with rfl | hu
 · rw [List.length_eq_zero_iff.1 hT]; rfl
 · have h := selL_take (B := B) (st := st) (N := N) (s := T) (t := e * N) (by rw [hT]; exact selL_big hN hu)
   rw [hT] at h
   exact h
theorem pick_len {B : List Int} {st N e : Nat} (hN : N = B.length) (hu : e = 0 ∨ usC B ≠ 0) : (pick B st N e).length = e := by
 unfold pick
 rw [List.length_take]
 rcases hu with rfl | hu
 · exact Nat.zero_min _
 · exact Nat.min_eq_left (selL_big hN hu)
def bfE (b : Nat) (lim : Int) (i : Nat) : List Int := (bufL (sz b i) (fl b i)).take (szB (sz b i) lim)
theorem uS_bfE (b : Nat) (lim : Int) (i : Nat) : uS b lim i = usC (bfE b lim i) := rfl
theorem bfE_len {b i : Nat} {lim : Int} (hl : 1 ≤ lim) : szB (sz b i) lim = (bfE b lim i).length := by
 have := szB_bd (sz b i) hl
 unfold bfE
 rw [List.length_take, show (bufL (sz b i) (fl b i)).length = 3 * nB (sz b i) from by unfold bufL; exact bufT_len _ _ _]
 omega
def rowE (b : Nat) (lim : Int) (rv e i : Nat) (xs : List Int) : List Int := (pick (bfE b lim i) (stS (sz b i) (szB (sz b i) lim) rv) (szB (sz b i) lim) e).map fun p => gi xs p.toNat
def rowX (b : Nat) (lim : Int) (C g m rv : Nat) (xs : List Int) (i : Nat) : List Int := rowE b lim rv (shN C g m i) i (Tu.encW ((bD xs).getD i []))
def badX (b : Nat) (lim : Int) (C g m : Nat) : Bool := (List.range C).any fun q => decide (uS b lim q = 0 ∧ 0 < shN C g m q)
theorem badX_t {b : Nat} {lim : Int} {C g m : Nat} : badX b lim C g m = true ↔ ∃ q, q < C ∧ bad49 b lim C g m q := by
 unfold badX bad49
 rw [List.any_eq_true]
 constructor
 · rintro ⟨q, hq, h⟩
   exact ⟨q, List.mem_range.1 hq, of_decide_eq_true h⟩
 · rintro ⟨q, hq, h⟩
   exact ⟨q, List.mem_range.2 hq, decide_eq_true h⟩
def exE (b : Nat) (lim : Int) (C g m : Nat) (xs : List Int) : Int := if bE xs = 0 then if badX b lim C g m = true then 10 else 0 else bE xs
def exD (b : Nat) (lim : Int) (C g m rv : Nat) (xs : List Int) : List Int := if exE b lim C g m xs = 0 then (List.range C).flatMap (rowX b lim C g m rv xs) else []
theorem cepost_of {xs B : List Int} {st N e : Nat} {W : World} {en : Ending} {w' : World} (hN : N = B.length) (h : MtPost xs B st N e W en w') :
 CePost (usC B = 0 ∧ 0 < e) ((pick B st N e).map fun p => gi xs p.toNat) W en w' := by
 obtain ⟨hB, h⟩ := h
 refine ⟨hB, ?_⟩
 rcases h with ⟨h1, h2, h3⟩ | ⟨h1, A, c, T, h2, h3, h4, h5⟩
 · exact .inl ⟨⟨h2, by omega⟩, h3⟩
 · refine .inr ⟨fun h => by omega, A, e, c, h3, h4, ?_⟩
   rw [pick_of hN h1 h2] at h5
   exact h5
theorem shN_le (C g m i : Nat) (hC : 1 ≤ C) (hi : i < C) : shN C g m i ≤ m * g := by
 have h1 := offS_all C g m hC
 have h2 := offS_le (C := C) (g := g) (m := m) (show i + 1 ≤ C by omega)
 have h3 : offS C g m (i + 1) = offS C g m i + shN C g m i := rfl
 omega
theorem flatMap_range_succ (f : Nat → List Int) (j : Nat) : (List.range (j + 1)).flatMap f = (List.range j).flatMap f ++ f j := by
 rw [List.range_succ, List.flatMap_append]; simp
theorem bE_inv {xs : List Int} (h : bE xs = 0) : 1 ≤ xs.length ∧ xs.length ≤ 79536 ∧ ValidB xs = true := by
 unfold bE at h
 split at h
 · cases h
 · split at h
   · exact ⟨by omega, by omega, by assumption⟩
   · cases h
theorem bD_eq {xs : List Int} (h : bE xs = 0) (hy : Byt xs) : bD xs = segs (xs.length + 24) (List.replicate (fi (xs.length + 24)) 0 ++ (xs ++ crcSum 1 xs)) (bC (xs.length + 24)) ∧ Bit (xs ++ crcSum 1 xs) ∧ (xs ++ crcSum 1 xs).length = xs.length + 24 := by
 obtain ⟨h1, h2, hv⟩ := bE_inv h
 have hbit := bit_of (fun x hx => (hy x hx).1) hv
 have hcl : (crcSum 1 xs).length = 24 := by rw [crcSum_len]; rfl
 have hcb : Bit (crcSum 1 xs) := bit_sum (by decide) hbit
 have hab := bit_app hbit hcb
 have hvb := validB_of_bit hab
 have hal : (xs ++ crcSum 1 xs).length = xs.length + 24 := by rw [List.length_append, hcl]
 have hs : sE (xs ++ crcSum 1 xs) = 0 := by
  unfold sE
  rw [hal, if_neg (by omega), if_pos hvb]
 refine ⟨?_, hab, hal⟩
 unfold bD
 rw [if_pos h]
 unfold sD
 rw [if_pos hs, hal]
theorem bD_len {xs : List Int} (h : bE xs = 0) (hy : Byt xs) : (bD xs).length = bC (xs.length + 24) := by
 rw [(bD_eq h hy).1]; simp [segs]
theorem bD_at {xs : List Int} (h : bE xs = 0) (hy : Byt xs) {j : Nat} {d : List Int} (hd : (bD xs)[j]? = some d) : d.length = sz (xs.length + 24) j ∧ Bit d ∧ Tu.validK (d.length : Int) = true := by
 obtain ⟨h1, h2, h3⟩ := bD_eq h hy
 have hv := sD_vk (ys := xs ++ crcSum 1 xs) d (by
  have h5 := List.mem_of_getElem? hd
  unfold bD at h5
  rw [if_pos h] at h5
  exact h5)
 rw [h1] at hd
 have hbt := segs_bit (bit_app (bit_zeros _) h2) d (List.mem_of_getElem? hd)
 have hj : j < bC (xs.length + 24) := by
  have h4 := (List.getElem?_eq_some_iff.1 hd).1
  simpa [segs] using h4
 unfold segs at hd
 rw [List.getElem?_map, List.getElem?_range hj] at hd
 have hd := Option.some.inj hd
 refine ⟨?_, hbt, hv⟩
 rw [← hd]
 have h8 := off_le (b := xs.length + 24) (show j + 1 ≤ bC (xs.length + 24) by omega)
 have h9 : off (xs.length + 24) (j + 1) = off (xs.length + 24) j + (sz (xs.length + 24) j - ck (xs.length + 24)) := rfl
 have h10 := off_all (b := xs.length + 24) (by omega)
 refine segB_len (by omega) _ ?_
 rw [List.length_take, List.length_drop, List.length_append, List.length_replicate, h3]; omega
theorem encW_len {d : List Int} (hb : Bit d) (hv : Tu.validK (d.length : Int) = true) : (Tu.encW d).length = 3 * (d.length + 4) := by
 have hvb : Go.Proofs.YtkdfefpnhaebfaaGreat.ValidB d = true := bit_valid hb
 have e : Tu.encW d = Tu.wordI (Tu.toB d) := by unfold Tu.encW; rw [if_pos hv, if_pos hvb]
 rw [e, Tu.wordI_len]
 simp [Tu.toB]
theorem encW_bit {xs : List Int} : Bit (Tu.encW xs) := by
 intro x hx
 unfold Tu.encW at hx
 split at hx
 · split at hx
   · unfold Tu.wordI at hx
     obtain ⟨b, -, rfl⟩ := List.mem_map.1 hx
     cases b
     · exact .inl rfl
     · exact .inr rfl
   · simp at hx
 · simp at hx
theorem word_at {xs : List Int} {L : List Sv} (h : bE xs = 0) (hy : Byt xs) (hL : L.map (·.xs) = (bD xs).map Tu.encW) {j : Nat} {s : Sv} (hj : L[j]? = some s) :
 s.xs = Tu.encW ((bD xs).getD j []) ∧ s.xs.length = 3 * (sz (xs.length + 24) j + 4) ∧ ValidB s.xs = true ∧ j < bC (xs.length + 24) := by
 have h1 : (L.map (·.xs))[j]? = some s.xs := by rw [List.getElem?_map, hj]; rfl
 rw [hL, List.getElem?_map] at h1
 obtain ⟨d, hd, he⟩ := Option.map_eq_some_iff.1 h1
 obtain ⟨e1, e2, e3⟩ := bD_at h hy hd
 have hj2 := (List.getElem?_eq_some_iff.1 hd).1
 refine ⟨?_, ?_, ?_, ?_⟩
 · rw [← he, List.getD_eq_getElem?_getD, hd]; rfl
 · rw [← he, encW_len e2 e3, e1]
 · rw [← he]; exact validB_of_bit encW_bit
 · rw [← bD_len h hy]; exact hj2
theorem flat_tot {L : List Sv} (h : ∀ s ∈ L, s.xs.length = s.n) : ∀ j, tot L j = (flat L j).length
 | 0 => by simp [tot, flat]
 | j + 1 => by
   cases hj : L[j]? with
   | none =>
     have h1 : L.length ≤ j := List.getElem?_eq_none_iff.1 hj
     have h2 := flat_tot h j
     unfold tot flat at *
     rw [List.take_of_length_le (by omega)] at h2 ⊢
     exact h2
   | some s => rw [tot_succ hj, flat_succ hj, List.length_append, flat_tot h j, h s (List.mem_of_getElem? hj)]
theorem flat_map {L : List Sv} {f : Nat → List Int} {C : Nat} (h : L.map (·.xs) = (List.range C).map f) : flat L L.length = (List.range C).flatMap f := by
 unfold flat
 rw [List.take_length, List.flatMap_def, List.flatMap_def, h]
theorem rowX_len {b : Nat} {lim : Int} {C g m rv : Nat} {xs : List Int} {i : Nat} (hl : 1 ≤ lim) (hi : ¬ bad49 b lim C g m i) : (rowX b lim C g m rv xs i).length = shN C g m i := by
 unfold rowX rowE
 rw [List.length_map]
 refine pick_len (bfE_len hl) ?_
 unfold bad49 at hi
 rw [uS_bfE] at hi
 omega
theorem rowsX_len {b : Nat} {lim : Int} {C g m rv : Nat} {xs : List Int} (hl : 1 ≤ lim) (h : ∀ q, q < C → ¬ bad49 b lim C g m q) : ∀ k, k ≤ C → ((List.range k).flatMap (rowX b lim C g m rv xs)).length = offS C g m k
 | 0, _ => rfl
 | k + 1, hk => by
   rw [flatMap_range_succ, List.length_append, rowsX_len hl h k (by omega), rowX_len hl (h k (by omega))]; rfl
theorem ex_err {b : Nat} {lim : Int} {C g m rv : Nat} {xs : List Int} (h : bE xs ≠ 0) : exE b lim C g m xs = bE xs ∧ exD b lim C g m rv xs = [] := by
 have e : exE b lim C g m xs = bE xs := by unfold exE; rw [if_neg h]
 exact ⟨e, by unfold exD; rw [e, if_neg h]⟩
theorem ex_bad {b : Nat} {lim : Int} {C g m rv : Nat} {xs : List Int} (h : bE xs = 0) (hb : ∃ q, q < C ∧ bad49 b lim C g m q) : exE b lim C g m xs = 10 ∧ exD b lim C g m rv xs = [] := by
 have e : exE b lim C g m xs = 10 := by unfold exE; rw [if_pos h, if_pos (badX_t.2 hb)]
 exact ⟨e, by unfold exD; rw [e]; rfl⟩
theorem ex_ok {b : Nat} {lim : Int} {C g m rv : Nat} {xs : List Int} (h : bE xs = 0) (hb : ∀ q, q < C → ¬ bad49 b lim C g m q) : exE b lim C g m xs = 0 ∧ exD b lim C g m rv xs = (List.range C).flatMap (rowX b lim C g m rv xs) := by
 have e : exE b lim C g m xs = 0 := by
  unfold exE; rw [if_pos h, if_neg]
  intro hx
  obtain ⟨q, h1, h2⟩ := badX_t.1 hx
  exact hb q h1 h2
 exact ⟨e, by unfold exD; rw [e]; rfl⟩
theorem tot_all {b : Nat} {lim : Int} {C g m rv : Nat} {xs : List Int} {L : List Sv} (hl : 1 ≤ lim) (hC : 1 ≤ C) (hb : ∀ q, q < C → ¬ bad49 b lim C g m q) (hL : L.map (·.xs) = (List.range C).map (rowX b lim C g m rv xs)) (hn : ∀ s ∈ L, s.xs.length = s.n) :
 tot L L.length = m * g ∧ flat L L.length = (List.range C).flatMap (rowX b lim C g m rv xs) := by
 have h1 := flat_map hL
 refine ⟨?_, h1⟩
 rw [flat_tot hn, h1, rowsX_len hl hb C (Nat.le_refl _), offS_all C g m hC]
end Go.Proofs.YtkdfefpnhaebfaaGreat.Cr
namespace Go.Proofs.YtkdfefpnhaebfaaGreat
open Go.RowKit
attribute [local go_sem] Oper.semAt_some
set_option maxRecDepth 100000
set_option maxHeartbeats 8000000
def kS (s : Int) : Nat := Cr.lo (s.toNat + 24)
def fS (s : Int) : Nat := Cr.fi (s.toNat + 24)
def slP (s l : Int) (rv n : Nat) : List Int := Cr.pick (b1 s l) (Cr.stS (kS s) (Cr.szB (kS s) l) rv) (Cr.szB (kS s) l) n
structure Zs where
 st : Int
 sz : Int
 lm : Int
 vs : List Int
 cnt : Int
 b : Option (List Int)
def zI (s l : Int) : Zs := ⟨1, s, l, frL (kS s) (fS s), 0, none⟩
def vsZ (z : Zs) (rv n : Nat) (ys : List Int) : List Int := cmbL (slP z.sz z.lm rv n) ys z.vs n
noncomputable def bZ (half : Int) (z : Zs) (rv n : Nat) (ys : List Int) : Option (List Int) := dcB (vsZ z rv n ys) (kS z.sz) (fS z.sz) half z.b
noncomputable def nxZ (half : Int) (z : Zs) (rv n : Nat) (ys : List Int) : Zs := ⟨fnS 1 z.sz (bZ half z rv n ys), z.sz, z.lm, vsZ z rv n ys, z.cnt + n, fnB z.sz (bZ half z rv n ys)⟩
structure HzP (W : World) (base P : Nat) (half : Int) (z : Zs) (N : Nat) (F : List Nat) : Prop where
 h : ∃ G cap D V vc R r rc rest, F = [G, D, blk V] ∧ HqP W base P half z.st z.sz z.lm G cap D (kS z.sz) (fS z.sz) V vc z.vs z.cnt R r rc rest z.b
 s : 1 ≤ z.sz ∧ z.sz ≤ 472
 l : 1 ≤ z.lm
 c : 0 ≤ z.cnt ∧ z.cnt ≤ (N : Int)
 t : z.st = 1 ∨ z.st = 2
 b : ∀ x, z.b = some x → x.length ≤ 1000
def RcQ (w : World) (base P : Nat) (half : Int) (z : Zs) (rv n : Nat) (ys : List Int) (F : List Nat) (N : Nat) (e : Ending) (w' : World) : Prop :=
 ∃ A' n' c' F', e = .returned (.tuple #[.slice A' n' c', .int .i64 (fnK z.sz (bZ half z rv n ys)), .int .i64 0]) ∧ Rd .u8 w' A' n' c' (fnO z.sz (bZ half z rv n ys)) ∧ Below base w w' ∧ HzP w' base P half (nxZ half z rv n ys) (N + n) F' ∧
  (∀ q, q < w.heap.size → q ≠ P → q ∉ F → w'.heap[q]? = w.heap[q]?) ∧ (∀ x, x ∈ F' → x ∈ F ∨ w.heap.size ≤ x)
theorem rdv_heq {W W' : World} {A : Option Addr} {n c : Nat} {vs : List Value} (h : Rdv W A n c vs) (hs : W.heap.size ≤ W'.heap.size) (hk : A ≠ none → blk A < W.heap.size → W'.heap[blk A]? = W.heap[blk A]?) : Rdv W' A n c vs := by
 refine ⟨h.len, h.le, h.cm, h.nil, h.spot, fun hc a ha => Nat.lt_of_lt_of_le (h.lt hc a ha) hs, fun j v hj => ?_⟩
 rw [← h.at_ j v hj]
 have hlt : j < n := by rw [← h.len]; exact (List.getElem?_eq_some_iff.1 hj).1
 have hle := h.le
 obtain ⟨b, o, rfl, hb'⟩ := h.ptr (by omega)
 exact World.cell?_of_block (hk (by simp) hb')
theorem dcB_len {vs : List Int} {k f : Nat} {half : Int} {b : Option (List Int)} (hv : vs.length ≤ 1500) (hb : ∀ x, b = some x → x.length ≤ 1000) : ∀ x, dcB vs k f half b = some x → x.length ≤ 1000 := by
 intro x hx
 unfold dcB at hx
 cases b with
 | some y => exact hb x hx
 | none =>
   dsimp only at hx
   split at hx
   · cases hx
   · split at hx
     · rename_i h1 h2
       have h3 := it_lenK h2 hv
       have := Option.some.inj hx
       rw [← this, h3.1]
       unfold kOf
       omega
     · cases hx
theorem fnB_len {sz : Int} {b : Option (List Int)} (hb : ∀ x, b = some x → x.length ≤ 1000) : ∀ x, fnB sz b = some x → x.length ≤ 1000 := by
 intro x hx
 unfold fnB at hx
 cases b with
 | none => cases hx
 | some y =>
   dsimp only at hx
   split at hx
   · exact hb x hx
   · cases hx
theorem fnS_cases (sz : Int) (b : Option (List Int)) : fnS 1 sz b = 1 ∨ fnS 1 sz b = 2 := by
 unfold fnS
 cases b with
 | none => exact .inl rfl
 | some y =>
   dsimp only
   split
   · exact .inr rfl
   · exact .inl rfl
theorem btp_len {W : World} {R : Option Addr} {r rc : Nat} {b : Option (List Int)} (h : BtP W R r rc b) (hb : ∀ x, b = some x → x.length ≤ 1000) : r ≤ 100000 := by
 cases b with
 | none => rw [h.2.1]; omega
 | some x => have h1 := hb x rfl; have h2 := Rd.len h.2.2; omega
theorem lo_small {b : Nat} (h1 : 1 ≤ b) (h : b ≤ 496) : ∃ u, Cr.lo b = 40 + 8 * u ∧ u ≤ 57 := by
 unfold Cr.lo
 rw [Cr.av_one (by omega)]
 by_cases h2 : b ≤ 40
 · refine ⟨0, ?_, by omega⟩
   have e : Cr.ix b = 0 := by unfold Cr.ix; rw [if_pos h2]
   unfold Cr.nx
   rw [e]
   rfl
 · have e : Cr.ix b = (b - 33) / 8 := by unfold Cr.ix; rw [if_neg h2, if_pos (by omega)]
   refine ⟨(b - 33) / 8, ?_, by omega⟩
   unfold Cr.nx Cr.SZ
   rw [e, if_pos (by omega)]
theorem kS_bd {s : Int} (h1 : 1 ≤ s) (h2 : s ≤ 472) : 40 ≤ kS s ∧ kS s ≤ 496 ∧ fS s < kS s := by
 obtain ⟨e1, e2, e3, e4, e5, e6, e7⟩ := one_lay (b := s.toNat + 24) (by omega) (by omega)
 obtain ⟨u, hu, hu2⟩ := lo_small (b := s.toNat + 24) (by omega) (by omega)
 exact ⟨e5, by unfold kS; omega, e7⟩
theorem b1_len {s l : Int} (hl : 1 ≤ l) : Cr.szB (kS s) l = (b1 s l).length := by
 have hzb := Cr.szB_bd (kS s) hl
 unfold b1
 rw [List.length_take, show (Cr.bufL (Cr.lo (s.toNat + 24)) (Cr.fi (s.toNat + 24))).length = 3 * Cr.nB (kS s) from by unfold Cr.bufL; exact Cr.bufT_len _ _ _]
 unfold kS at hzb ⊢
 omega
theorem spE_zero {s bt md l rv : Int} {n : Nat} (h : spE s bt md l rv n = 0) : Cr.VC s bt md l rv = true ∧ (n : Int) = bt ∧ (n = 0 ∨ Cr.usC (b1 s l) ≠ 0) := by
 unfold spE at h
 split at h
 · cases h
 · rename_i h1
   split at h
   · cases h
   · rename_i h2
     refine ⟨?_, ?_, by omega⟩
     · cases hv : Cr.VC s bt md l rv with
       | true => rfl
       | false => exact absurd (.inl hv) h1
     · apply Classical.byContradiction
       intro h3
       exact h1 (.inr h3)
theorem rcE_zero {st sz lm s bt md l rv : Int} {fresh : Bool} {ys : List Int} {n : Nat} (h : rcE st sz lm s bt md l rv fresh ys n = 0) : spE s bt md l rv n = 0 ∧ SoftB ys = true ∧ ((fresh = true ∨ st = 0) ∨ (s = sz ∧ l = lm)) := by
 unfold rcE at h
 split at h
 · cases h
 · rename_i h1
   split at h
   · cases h
   · rename_i h2
     refine ⟨h, by simpa using (not_or.1 h1).2, ?_⟩
     cases fresh with
     | true => exact .inl (.inl rfl)
     | false =>
       by_cases hst : st = 0
       · exact .inl (.inr hst)
       · by_cases h3 : s = sz ∧ l = lm
         · exact .inr h3
         · exact absurd ⟨⟨rfl, hst⟩, Classical.or_iff_not_imp_left.2 (fun h4 h5 => h3 ⟨Classical.not_not.1 h4, h5⟩)⟩ h2
theorem recv_done {w : World} {base P : Nat} {half sz lm : Int} {A0 : Option Addr} {n0 c0 : Nat} (h : PrP w base P half 2 sz lm A0 n0 c0) (h0 : half ≠ 0) (bt md rv : Int) (A : Option Addr) (n c : Nat) (ys : List Int) (hy : Rd .i64 w A n c ys) (hs : sz ≤ 472) (hE : rcE 2 sz lm sz bt md lm rv false ys n = 0) :
 Calls Tryz.prog 15 #[.pointer (some ⟨P, 0, none⟩), .agg #[.int .i64 sz, .int .i64 bt, .int .i64 md, .int .i64 lm, .int .i64 rv], .bool false, .slice A n c] w fun e w' => e = .returned (.tuple #[.slice none 0 0, .int .i64 1, .int .i64 0]) ∧ Below w.heap.size w w' := by
 obtain ⟨hsp, hsb, -⟩ := rcE_zero hE
 have HN0 := Lib.hid (pnone_any (h.below (bal (Below.refl w.heap.size w) (.cells #[.int .i64 sz, .int .i64 bt, .int .i64 md, .int .i64 lm, .int .i64 rv] 36))) h0)
 have HB1 := Lib.hid (bal (Below.refl w.heap.size w) (.cells #[.int .i64 sz, .int .i64 bt, .int .i64 md, .int .i64 lm, .int .i64 rv] 36))
 have HP1 := Lib.hid (h.below HB1.out)
 have hC1 := Blk.new w [.int .i64 sz, .int .i64 bt, .int .i64 md, .int .i64 lm, .int .i64 rv] 36 rfl
 have HC1 := Lib.hid hC1
 have HY1 := Lib.hid (Rdv.below hy HB1.out)
 have HSP := Lib.hid (split1 sz bt md lm rv A n c ys (w.alloc (.cells #[.int .i64 sz, .int .i64 bt, .int .i64 md, .int .i64 lm, .int .i64 rv] 36)) HY1.out (by omega))
 unfold SpQ at HSP
 rw [hsp] at HSP
 have HV := Lib.hid (fun W hW => svalid_any A n c ys W hW)
 rw [hsb] at HV
 clear h h0 hy hs hE hsp hsb
 go_enter Tryz.func15, Tryz.ntmps15
 go_wp2_with fail
 refine HN0.out.mono ?_
 rintro e wx ⟨rfl, hwx⟩
 rw [← hwx]
 clear hwx
 generalize w.alloc (.cells #[.int .i64 sz, .int .i64 bt, .int .i64 md, .int .i64 lm, .int .i64 rv] 36) = w1 at *
 go_wp2_with (refine ldrow (cs := [.int .i64 sz, .int .i64 bt, .int .i64 md, .int .i64 lm, .int .i64 rv]) rfl 36 (.tmp 5) rfl rfl hC1 _ Tryz.underlying36 rfl (by rw [infoCf]; rfl) ?_)
 refine HSP.out.mono ?_
 rintro e w2 ⟨hB2, PA, nP, cP, rfl, hok⟩
 have HP2 := Lib.hid (HP1.out.below hB2)
 have HC2 := Lib.hid (HC1.out.below hB2)
 have HB2 := Lib.hid (HB1.out.trans (hB2.mono HB1.out.size))
 have HY2 := Lib.hid (Rdv.below HY1.out hB2)
 have cst := HP2.out.p.cell (j := 1) (v := .int .i64 2) rfl
 have csz := HP2.out.p.cell (j := 2) (v := .int .i64 sz) rfl
 have clm := HP2.out.p.cell (j := 3) (v := .int .i64 lm) rfl
 have cs := HC2.out.cell (j := 0) (v := .int .i64 sz) rfl
 have cl := HC2.out.cell (j := 3) (v := .int .i64 lm) rfl
 go_wp2_with fail
 refine (HV.out w2 HY2.out).mono ?_
 rintro e w3 ⟨rfl, hB3⟩
 have csz := (HP2.out.below hB3).p.cell (j := 2) (v := .int .i64 sz) rfl
 have clm := (HP2.out.below hB3).p.cell (j := 3) (v := .int .i64 lm) rfl
 have cst := (HP2.out.below hB3).p.cell (j := 1) (v := .int .i64 2) rfl
 have cs := (HC2.out.below hB3).cell (j := 0) (v := .int .i64 sz) rfl
 have cl := (HC2.out.below hB3).cell (j := 3) (v := .int .i64 lm) rfl
 have q5 : (sz != sz) = false := bne_f rfl
 have q6 : (lm != lm) = false := bne_f rfl
 have HB3 := Lib.hid (HB2.out.trans (hB3.mono HB2.out.size))
 clear hB3
 go_wp2_with fail
 go_quiet (fail)
 go_wp2
 go_ret3
 exact ⟨rfl, HB3.out.trans (Qt.below ⟨_, rfl⟩ _)⟩
end Go.Proofs.YtkdfefpnhaebfaaGreat
