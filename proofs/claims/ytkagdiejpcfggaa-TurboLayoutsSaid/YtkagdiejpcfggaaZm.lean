/-
  Plain facts: by either layout the bits of a word are the input (or the mixed input), its parity and its tail. Condition: a block size of at most 512.
-/
import Derived.Test.YtkagdiejpcfggaaZl
namespace Go.Proofs.Ytkagdiejpcfggaa
open Go.RowKit
set_option linter.unusedVariables false
def gB (l : List Bool) (i : Nat) : Bool := l.getD i false
theorem gB_l {a b : List Bool} {i : Nat} (h : i < a.length) : gB (a ++ b) i = gB a i := by
  unfold gB; rw [List.getD_eq_getElem?_getD, List.getD_eq_getElem?_getD, List.getElem?_append_left h]
theorem gB_r {a b : List Bool} {i j : Nat} (h : i = a.length + j) : gB (a ++ b) i = gB b j := by
  subst h
  unfold gB; rw [List.getD_eq_getElem?_getD, List.getD_eq_getElem?_getD, List.getElem?_append_right (by omega), show a.length + j - a.length = j by omega]
theorem gB_range (l : List Bool) : (List.range l.length).map (gB l) = l := by
  refine List.ext_getElem (by simp) fun i h1 h2 => ?_
  simp [gB, h2]
def T0 (x m : List Bool) : List Bool := [tu (fin x) 0, tz (fin x) 1, tu (fin m) 0, tz (fin m) 1]
def T1 (x m : List Bool) : List Bool := [tz (fin x) 0, tu (fin x) 2, tz (fin m) 0, tu (fin m) 2]
def T2 (x m : List Bool) : List Bool := [tu (fin x) 1, tz (fin x) 2, tu (fin m) 1, tz (fin m) 2]
theorem wrd_eq (x : List Bool) : wrd x = x ++ (T0 x (mixB x) ++ (parL s0 x ++ (T1 x (mixB x) ++ (parL s0 (mixB x) ++ T2 x (mixB x))))) := by
  unfold wrd wordB T0 T1 T2; simp only [List.append_assoc]
section
variable {x : List Bool} {k : Nat} (hx : x.length = k)
include hx
theorem wg0 {i : Nat} (h : i < k) : gB (wrd x) i = gB x i := by rw [wrd_eq, gB_l (by omega)]
theorem wg1 {i j : Nat} (h : j < 4) (e : i = k + j) : gB (wrd x) i = gB (T0 x (mixB x)) j := by rw [wrd_eq, gB_r (j := j) (by omega), gB_l (by simpa [T0] using h)]
theorem wg2 {i j : Nat} (h : j < k) (e : i = k + 4 + j) : gB (wrd x) i = gB (parL s0 x) j := by
  rw [wrd_eq, gB_r (j := 4 + j) (by omega), gB_r (j := j) (by simp [T0]), gB_l (by rw [parL_len]; omega)]
theorem wg3 {i j : Nat} (h : j < 4) (e : i = 2 * k + 4 + j) : gB (wrd x) i = gB (T1 x (mixB x)) j := by
  rw [wrd_eq, gB_r (j := k + 4 + j) (by omega), gB_r (j := k + j) (by simp [T0]; omega), gB_r (j := j) (by rw [parL_len]; omega), gB_l (by simpa [T1] using h)]
theorem wg4 {i j : Nat} (h : j < k) (e : i = 2 * k + 8 + j) : gB (wrd x) i = gB (parL s0 (mixB x)) j := by
  rw [wrd_eq, gB_r (j := k + 8 + j) (by omega), gB_r (j := k + 4 + j) (by simp [T0]; omega), gB_r (j := 4 + j) (by rw [parL_len]; omega), gB_r (j := j) (by simp [T1]), gB_l (by rw [parL_len, mixB_len]; omega)]
theorem wg5 {i j : Nat} (h : j < 4) (e : i = 3 * k + 8 + j) : gB (wrd x) i = gB (T2 x (mixB x)) j := by
  rw [wrd_eq, gB_r (j := 2 * k + 8 + j) (by omega), gB_r (j := 2 * k + 4 + j) (by simp [T0]; omega), gB_r (j := k + 4 + j) (by rw [parL_len]; omega), gB_r (j := k + j) (by simp [T1]; omega), gB_r (j := j) (by rw [parL_len, mixB_len]; omega)]
end
def inC (x : List Bool) (code : Nat) : List Bool := if code = 1 then x else mixB x
theorem inC_len (x : List Bool) (code : Nat) : (inC x code).length = x.length := by unfold inC; split <;> simp [mixB_len]
def selB (W : List Bool) (L : List Int) : List Bool := L.map fun i => gB W i.toNat
theorem selB_app (W : List Bool) (a b : List Int) : selB W (a ++ b) = selB W a ++ selB W b := List.map_append
theorem selB_len (W : List Bool) (L : List Int) : (selB W L).length = L.length := by simp [selB]
theorem osL_gi (k code i : Nat) (hc : code = 1 ∨ code = 2) (h : i < k) : gi (osL k code) i = ((if code = 1 then i else piN k i : Nat) : Int) := by
  rcases hc with rfl | rfl
  · rw [rng_gi h]; rfl
  · show gi (ordL k) i = _
    rw [gi_eq _ _ (by simpa [ordL] using h)]
    simp [ordL]
theorem sel_sysP {x : List Bool} {k code u : Nat} (hx : x.length = k) (hk : k = szK u) (hc : code = 1 ∨ code = 2) : selB (wrd x) (sysP k code k) = inC x code := by
  have e : selB (wrd x) (sysP k code k) = (List.range k).map fun i => gB x (if code = 1 then i else piN k i) := by
    unfold selB sysP
    rw [List.map_map]
    refine List.map_congr_left fun i hi => ?_
    have hi := List.mem_range.1 hi
    show gB (wrd x) (gi (osL k code) i).toNat = _
    rw [osL_gi k code i hc hi, Int.toNat_natCast]
    refine wg0 hx ?_
    split
    · exact hi
    · exact (perm_map hk).1 i hi
  rw [e]
  rcases hc with rfl | rfl
  · subst hx; exact gB_range x
  · subst hx; rfl
theorem gB_cons3 (a b c d : Bool) : gB [a, b, c, d] 0 = a ∧ gB [a, b, c, d] 1 = b ∧ gB [a, b, c, d] 2 = c ∧ gB [a, b, c, d] 3 = d := ⟨rfl, rfl, rfl, rfl⟩
theorem sel_sys {x : List Bool} {k code u : Nat} (hx : x.length = k) (hk : k = szK u) (hc : code = 1 ∨ code = 2) :
    selB (wrd x) (sysL k code) = inC x code ++ [tu (fin (inC x code)) 0, tu (fin (inC x code)) 1, tu (fin (inC x code)) 2] := by
  rw [sysL_eq, selB_app, sel_sysP hx hk hc]
  congr 1
  simp only [selB, List.map_cons, List.map_nil, Int.toNat_natCast]
  rcases hc with rfl | rfl
  · rw [show atN k 1 = k from by unfold atN; omega, wg1 hx (j := 0) (by omega) (by omega), wg5 hx (j := 0) (by omega) (by omega), wg3 hx (j := 1) (by omega) (by omega)]; rfl
  · rw [show atN k 2 = k + 2 from by unfold atN; omega, wg1 hx (j := 2) (by omega) (by omega), wg5 hx (j := 2) (by omega) (by omega), wg3 hx (j := 3) (by omega) (by omega)]; rfl
theorem sel_parP {x : List Bool} {k code : Nat} (hx : x.length = k) (hc : code = 1 ∨ code = 2) : selB (wrd x) (parP k code k) = parL s0 (inC x code) := by
  have e : selB (wrd x) (parP k code k) = (List.range k).map (gB (parL s0 (inC x code))) := by
    unfold selB parP
    rw [List.map_map]
    refine List.map_congr_left fun i hi => ?_
    have hi := List.mem_range.1 hi
    show gB (wrd x) ((code * (k + 4) + i : Nat) : Int).toNat = _
    rw [Int.toNat_natCast]
    rcases hc with rfl | rfl
    · exact wg2 hx hi (by omega)
    · exact wg4 hx hi (by omega)
  rw [e]
  have hl : (parL s0 (inC x code)).length = k := by rw [parL_len, inC_len, hx]
  have := gB_range (parL s0 (inC x code))
  rwa [hl] at this
theorem sel_par {x : List Bool} {k code : Nat} (hx : x.length = k) (hc : code = 1 ∨ code = 2) :
    selB (wrd x) (parI k code) = parL s0 (inC x code) ++ [tz (fin (inC x code)) 0, tz (fin (inC x code)) 1, tz (fin (inC x code)) 2] := by
  rw [parI_eq, selB_app, sel_parP hx hc]
  congr 1
  simp only [selB, List.map_cons, List.map_nil, Int.toNat_natCast]
  rcases hc with rfl | rfl
  · rw [show atN k 1 = k from by unfold atN; omega, wg3 hx (j := 0) (by omega) (by omega), wg1 hx (j := 1) (by omega) (by omega), wg5 hx (j := 1) (by omega) (by omega)]; rfl
  · rw [show atN k 2 = k + 2 from by unfold atN; omega, wg3 hx (j := 2) (by omega) (by omega), wg1 hx (j := 3) (by omega) (by omega), wg5 hx (j := 3) (by omega) (by omega)]; rfl
/-- what the walk puts together -/
theorem got_word {x S P : List Bool} {k code u : Nat} (hx : x.length = k) (hk : k = szK u) (hc : code = 1 ∨ code = 2) (hS : S = selB (wrd x) (sysL k code)) (hP : P = selB (wrd x) (parI k code)) :
    S.take k = inC x code ∧ S.take k ++ P.take k ++ (S.drop k ++ P.drop k) = wordC (inC x code) := by
  have hl : (inC x code).length = k := by rw [inC_len, hx]
  have hl2 : (parL s0 (inC x code)).length = k := by rw [parL_len, hl]
  subst hS hP
  rw [sel_sys hx hk hc, sel_par hx hc]
  have e1 : ∀ (a b : List Bool), a.length = k → (a ++ b).take k = a ∧ (a ++ b).drop k = b := by
    intro a b h; subst h; exact ⟨List.take_left, List.drop_left⟩
  rw [(e1 _ _ hl).1, (e1 _ _ hl).2, (e1 _ _ hl2).1, (e1 _ _ hl2).2]
  refine ⟨rfl, ?_⟩
  unfold wordC
  simp only [List.append_assoc]
end Go.Proofs.Ytkagdiejpcfggaa
