/- Bundle. Conditions: none. -/
import Derived.Test.YtkdfefpnhaebfaaGreatBuoaq
import Derived.Test.YtkdfefpnhaebfaaGreatBuoam
import Derived.Test.YtkdfefpnhaebfaaGreatBuoal
import Derived.Test.YtkdfefpnhaebfaaGreatBuoaj
set_option linter.unusedVariables false
set_option linter.unusedSimpArgs false
namespace Go.Proofs.YtkdfefpnhaebfaaGreat.Tu
open Go.RowKit
def encE (xs : List Int) : Int := if validK (xs.length : Int) = true then (if ValidB xs = true then 0 else 3) else 2
def encW (xs : List Int) : List Int := if validK (xs.length : Int) = true then (if ValidB xs = true then wordI (toB xs) else []) else []
theorem wordI_len (bs : List Bool) : (wordI bs).length = 3 * (bs.length + 4) := by
 unfold wordI
 rw [List.length_map, wordB_len _ _ (mixB_len bs)]
theorem enc_all (A : Option Addr) (n c : Nat) (xs : List Int) (w : World) (h : Rd .u8 w A n c xs) (h0 : ∀ x ∈ xs, 0 ≤ x) :
 Calls Tryz.prog 59 #[.slice A n c] w fun e w' => ∃ A' m c', e = .returned (.tuple #[.slice A' m c', .int .i64 (encE xs)]) ∧ Own .u8 5 w' w.heap.size A' m c' (encW xs) ∧ Below w.heap.size w w' := by
 have hl := h.len
 by_cases hv : validK (n : Int) = true
 · by_cases hb : ValidB xs = true
   · have e1 : encE xs = 0 := by unfold encE; rw [hl, if_pos hv, if_pos hb]
     have e2 : encW xs = wordI (toB xs) := by unfold encW; rw [hl, if_pos hv, if_pos hb]
     rw [e1, e2]
     have ht := toB_ib xs h0 hb
     refine (enc_any A n c (toB xs) w (by rw [ht]; exact h) hv).mono ?_
     rintro e w' ⟨A', c', rfl, hO, hB⟩
     exact ⟨A', _, c', rfl, hO, hB⟩
   · have e1 : encE xs = 3 := by unfold encE; rw [hl, if_pos hv, if_neg hb]
     have e2 : encW xs = [] := by unfold encW; rw [hl, if_pos hv, if_neg hb]
     rw [e1, e2]
     refine (enc_badbit A n c xs w h hv (by simpa using hb)).mono ?_
     rintro e w' ⟨rfl, hB⟩
     exact ⟨none, 0, 0, rfl, Own.nilv _ _ _ _, hB⟩
 · have e1 : encE xs = 2 := by unfold encE; rw [hl, if_neg hv]
   have e2 : encW xs = [] := by unfold encW; rw [hl, if_neg hv]
   rw [e1, e2]
   refine (enc_badlen A n c w (by simpa using hv) (by have := h.bd.1; omega)).mono ?_
   rintro e w' ⟨rfl, hB⟩
   exact ⟨none, 0, 0, rfl, Own.nilv _ _ _ _, hB⟩
theorem szK_valid (u : Nat) : validK (szK u : Int) = true := by
 unfold validK szK
 simp only [decide_eq_true_eq]
 left
 omega
theorem szK_bd (u : Nat) : 40 ≤ szK u ∧ szK u ≤ 512 := by unfold szK; omega
set_option maxRecDepth 100000
def orM (k : Nat) : Nat → Nat
 | 0 => 0
 | i + 1 => orM k i ||| (1 <<< piN k i)
theorem orM_all : (List.range 60).all (fun u => orM (40 + 8 * u) (40 + 8 * u) == 2 ^ (40 + 8 * u) - 1) = true := by decide +kernel
theorem orM_mem (k : Nat) : ∀ n t, (orM k n).testBit t = true → ∃ i, i < n ∧ piN k i = t
 | 0, t, h => by rw [orM, Nat.zero_testBit] at h; cases h
 | n + 1, t, h => by
   rw [orM, Nat.testBit_or, Bool.or_eq_true] at h
   rcases h with h | h
   · obtain ⟨i, hi, e⟩ := orM_mem k n t h
     exact ⟨i, by omega, e⟩
   · refine ⟨n, by omega, ?_⟩
     rw [Nat.one_shiftLeft, Nat.testBit_two_pow] at h
     simpa using h
theorem pi_onto (u t : Nat) (h : t < szK u) : ∃ i, i < szK u ∧ piN (szK u) i = t := by
 have hc := List.all_eq_true.1 orM_all (u % 60) (List.mem_range.2 (Nat.mod_lt _ (by omega)))
 have hc : orM (szK u) (szK u) = 2 ^ szK u - 1 := by simpa [szK] using hc
 exact orM_mem _ _ _ (by rw [hc, Nat.testBit_two_pow_sub_one]; simpa using h)
theorem all_once : ∀ (k : Nat) (l : List Nat), l.length = k → (∀ t, t < k → t ∈ l) → (∀ x ∈ l, x < k) ∧ ∀ t, t < k → l.count t = 1
 | 0, l, hl, _ => by
   obtain rfl := List.eq_nil_of_length_eq_zero hl
   exact ⟨by simp, by intro t ht; omega⟩
 | k + 1, l, hl, h => by
   have hm := h k (by omega)
   have hp := List.perm_cons_erase hm
   obtain ⟨h1, h2⟩ := all_once k (l.erase k) (by rw [List.length_erase_of_mem hm]; omega) (fun t ht => (List.mem_erase_of_ne (by omega)).2 (h t (by omega)))
   refine ⟨fun x hx => ?_, fun t ht => ?_⟩
   · rcases List.mem_cons.1 (hp.mem_iff.1 hx) with e | e
     · omega
     · have := h1 x e; omega
   · rw [hp.count_eq, List.count_cons]
     by_cases e : t = k
     · subst e
       rw [if_pos (by simp), List.count_eq_zero.2 (fun hh => by have := h1 _ hh; omega)]
     · rw [if_neg (by simp; omega), h2 t (by omega)]
theorem perm_map {k u : Nat} (hk : k = szK u) : (∀ i, i < k → piN k i < k) ∧ ∀ t, t < k → ((List.range k).map (piN k)).count t = 1 := by
 subst hk
 obtain ⟨h1, h2⟩ := all_once (szK u) ((List.range (szK u)).map (piN (szK u))) (by simp) (fun t ht => by
  obtain ⟨i, hi, e⟩ := pi_onto u t ht
  exact List.mem_map.2 ⟨i, List.mem_range.2 hi, e⟩)
 exact ⟨fun i hi => h1 _ (List.mem_map.2 ⟨i, List.mem_range.2 hi, rfl⟩), h2⟩
def wrd (x : List Bool) : List Bool := wordB x (mixB x)
theorem wrd_len (x : List Bool) : (wrd x).length = 3 * (x.length + 4) := wordB_len x _ (mixB_len x)
def gB (l : List Bool) (i : Nat) : Bool := l.getD i false
theorem gB_l {a b : List Bool} {i : Nat} (h : i < a.length) : gB (a ++ b) i = gB a i := by
 unfold gB; rw [List.getD_eq_getElem?_getD, List.getD_eq_getElem?_getD, List.getElem?_append_left h]
theorem gB_r {a b : List Bool} {i j : Nat} (h : i = a.length + j) : gB (a ++ b) i = gB b j := by
 subst h
 unfold gB; rw [List.getD_eq_getElem?_getD, List.getD_eq_getElem?_getD, List.getElem?_append_right (by omega), show a.length + j - a.length = j by omega]
theorem gB_range (l : List Bool) : (List.range l.length).map (gB l) = l := by
 refine List.ext_getElem (by simp) fun i h1 h2 => ?_
 simp [gB, h2]
def T0 (x m : List Bool) : List Bool := [tu (fin x) 0, tz (fin x) 1, tu (fin m) 0, tz (fin m) 1]
def T1 (x m : List Bool) : List Bool := [tz (fin x) 0, tu (fin x) 2, tz (fin m) 0, tu (fin m) 2]
def T2 (x m : List Bool) : List Bool := [tu (fin x) 1, tz (fin x) 2, tu (fin m) 1, tz (fin m) 2]
theorem wrd_eq (x : List Bool) : wrd x = x ++ (T0 x (mixB x) ++ (parL s0 x ++ (T1 x (mixB x) ++ (parL s0 (mixB x) ++ T2 x (mixB x))))) := by
 unfold wrd wordB T0 T1 T2; simp only [List.append_assoc]
section
variable {x : List Bool} {k : Nat} (hx : x.length = k)
include hx
theorem wg0 {i : Nat} (h : i < k) : gB (wrd x) i = gB x i := by rw [wrd_eq, gB_l (by omega)]
theorem wg1 {i j : Nat} (h : j < 4) (e : i = k + j) : gB (wrd x) i = gB (T0 x (mixB x)) j := by rw [wrd_eq, gB_r (j := j) (by omega), gB_l (by simpa [T0] using h)]
theorem wg2 {i j : Nat} (h : j < k) (e : i = k + 4 + j) : gB (wrd x) i = gB (parL s0 x) j := by
 rw [wrd_eq, gB_r (j := 4 + j) (by omega), gB_r (j := j) (by simp [T0]), gB_l (by rw [parL_len]; omega)]
theorem wg3 {i j : Nat} (h : j < 4) (e : i = 2 * k + 4 + j) : gB (wrd x) i = gB (T1 x (mixB x)) j := by
 rw [wrd_eq, gB_r (j := k + 4 + j) (by omega), gB_r (j := k + j) (by simp [T0]; omega), gB_r (j := j) (by rw [parL_len]; omega), gB_l (by simpa [T1] using h)]
theorem wg4 {i j : Nat} (h : j < k) (e : i = 2 * k + 8 + j) : gB (wrd x) i = gB (parL s0 (mixB x)) j := by
 rw [wrd_eq, gB_r (j := k + 8 + j) (by omega), gB_r (j := k + 4 + j) (by simp [T0]; omega), gB_r (j := 4 + j) (by rw [parL_len]; omega), gB_r (j := j) (by simp [T1]), gB_l (by rw [parL_len, mixB_len]; omega)]
theorem wg5 {i j : Nat} (h : j < 4) (e : i = 3 * k + 8 + j) : gB (wrd x) i = gB (T2 x (mixB x)) j := by
 rw [wrd_eq, gB_r (j := 2 * k + 8 + j) (by omega), gB_r (j := 2 * k + 4 + j) (by simp [T0]; omega), gB_r (j := k + 4 + j) (by rw [parL_len]; omega), gB_r (j := k + j) (by simp [T1]; omega), gB_r (j := j) (by rw [parL_len, mixB_len]; omega)]
end
def inC (x : List Bool) (code : Nat) : List Bool := if code = 1 then x else mixB x
theorem inC_len (x : List Bool) (code : Nat) : (inC x code).length = x.length := by unfold inC; split <;> simp [mixB_len]
def selB (W : List Bool) (L : List Int) : List Bool := L.map fun i => gB W i.toNat
theorem selB_app (W : List Bool) (a b : List Int) : selB W (a ++ b) = selB W a ++ selB W b := List.map_append
theorem osL_gi (k code i : Nat) (hc : code = 1 ∨ code = 2) (h : i < k) : gi (osL k code) i = ((if code = 1 then i else piN k i : Nat) : Int) := by
 rcases hc with rfl | rfl
 · rw [rng_gi h]; rfl
 · show gi (ordL k) i = _
   rw [gi_eq _ _ (by simpa [ordL] using h)]
   simp [ordL]
theorem sel_sysP {x : List Bool} {k code u : Nat} (hx : x.length = k) (hk : k = szK u) (hc : code = 1 ∨ code = 2) : selB (wrd x) (sysP k code k) = inC x code := by
 have e : selB (wrd x) (sysP k code k) = (List.range k).map fun i => gB x (if code = 1 then i else piN k i) := by
  unfold selB sysP
  rw [List.map_map]
  refine List.map_congr_left fun i hi => ?_
  have hi := List.mem_range.1 hi
  show gB (wrd x) (gi (osL k code) i).toNat = _
  rw [osL_gi k code i hc hi, Int.toNat_natCast]
  refine wg0 hx ?_
  split
  · exact hi
  · exact (perm_map hk).1 i hi
 rw [e]
 rcases hc with rfl | rfl
 · subst hx; exact gB_range x
 · subst hx; rfl
theorem sel_sys {x : List Bool} {k code u : Nat} (hx : x.length = k) (hk : k = szK u) (hc : code = 1 ∨ code = 2) :
 selB (wrd x) (sysL k code) = inC x code ++ [tu (fin (inC x code)) 0, tu (fin (inC x code)) 1, tu (fin (inC x code)) 2] := by
 rw [sysL_eq, selB_app, sel_sysP hx hk hc]
 congr 1
 simp only [selB, List.map_cons, List.map_nil, Int.toNat_natCast]
 rcases hc with rfl | rfl
 · rw [show atN k 1 = k from by unfold atN; omega, wg1 hx (j := 0) (by omega) (by omega), wg5 hx (j := 0) (by omega) (by omega), wg3 hx (j := 1) (by omega) (by omega)]; rfl
 · rw [show atN k 2 = k + 2 from by unfold atN; omega, wg1 hx (j := 2) (by omega) (by omega), wg5 hx (j := 2) (by omega) (by omega), wg3 hx (j := 3) (by omega) (by omega)]; rfl
theorem sel_parP {x : List Bool} {k code : Nat} (hx : x.length = k) (hc : code = 1 ∨ code = 2) : selB (wrd x) (parP k code k) = parL s0 (inC x code) := by
 have e : selB (wrd x) (parP k code k) = (List.range k).map (gB (parL s0 (inC x code))) := by
  unfold selB parP
  rw [List.map_map]
  refine List.map_congr_left fun i hi => ?_
  have hi := List.mem_range.1 hi
  show gB (wrd x) ((code * (k + 4) + i : Nat) : Int).toNat = _
  rw [Int.toNat_natCast]
  rcases hc with rfl | rfl
  · exact wg2 hx hi (by omega)
  · exact wg4 hx hi (by omega)
 rw [e]
 have hl : (parL s0 (inC x code)).length = k := by rw [parL_len, inC_len, hx]
 have := gB_range (parL s0 (inC x code))
 rwa [hl] at this
theorem sel_par {x : List Bool} {k code : Nat} (hx : x.length = k) (hc : code = 1 ∨ code = 2) :
 selB (wrd x) (parI k code) = parL s0 (inC x code) ++ [tz (fin (inC x code)) 0, tz (fin (inC x code)) 1, tz (fin (inC x code)) 2] := by
 rw [parI_eq, selB_app, sel_parP hx hc]
 congr 1
 simp only [selB, List.map_cons, List.map_nil, Int.toNat_natCast]
 rcases hc with rfl | rfl
 · rw [show atN k 1 = k from by unfold atN; omega, wg3 hx (j := 0) (by omega) (by omega), wg1 hx (j := 1) (by omega) (by omega), wg5 hx (j := 1) (by omega) (by omega)]; rfl
 · rw [show atN k 2 = k + 2 from by unfold atN; omega, wg3 hx (j := 2) (by omega) (by omega), wg1 hx (j := 3) (by omega) (by omega), wg5 hx (j := 3) (by omega) (by omega)]; rfl
set_option maxHeartbeats 1000000
def invT (k : Nat) : Nat → List Int
 | 0 => List.replicate k 0
 | j + 1 => (invT k j).set (piN k j) (j : Int)
theorem invT_len (k : Nat) : ∀ j, (invT k j).length = k
 | 0 => List.length_replicate ..
 | j + 1 => by simp only [invT]; rw [List.length_set, invT_len k j]
def invL (k : Nat) : List Int := invT k k
theorem invset_any (A : Option Addr) (n c : Nat) (vs : List Int) (v : Nat) (j : Int) (base : Nat) (w : World) (h : Own .i64 3 w base A n c vs) (hj : v < n) :
 Calls Tryz.prog 215 #[.slice A n c, .int .i64 j, .int .i64 (v : Int)] w fun e w' => e = .returned (.tuple #[]) ∧ Own .i64 3 w' base A n c (vs.set v j) ∧ w.grownBy w' (some (blk A)) := by
 have hix := fun W => Rdv.ix (Own.rd h) el33 hj .i64 W
 have hcell := Rd.cell (Own.rd h) hj
 have hfz := Ownv.frozen h (by have := Rdv.le (Own.rd h); omega) v
 have HSET := Lib.hid (Own.set_ h hj j)
 clear h
 go_enter Tryz.func215, Tryz.ntmps215
 go_wp2
 go_returns
 exact ⟨rfl, HSET.out.1, HSET.out.2⟩
def MakSt (w wr : World) (k f1 f2 b : Nat) (A : Option Addr) (T : Nat → List Int) (j : Nat) : Prop :=
 Own .i64 3 wr w.heap.size A k k (T j) ∧ Obj3 wr w.heap.size b k f1 f2 ∧ Below w.heap.size w wr
def MakInv (w : World) (k f1 f2 b : Nat) (A : Option Addr) (T : Nat → List Int) (i : Value) (wr : World) : Prop := ∃ j : Nat, j ≤ k ∧ i = .int .i64 j ∧ MakSt w wr k f1 f2 b A T j
def invR (k : Int) : List Int := if validK k = true then invL k.toNat else []
theorem madev_any (k : Int) (w : World) : Calls Tryz.prog 213 #[.int .i64 k, .func (.func 215) #[] #[]] w fun e w' => ∃ A n, e = .returned (.tuple #[.slice A n n, .int .i64 (permE k)]) ∧ Own .i64 3 w' w.heap.size A n n (invR k) ∧ Below w.heap.size w w' := by
 by_cases hv : validK k = true
 · obtain ⟨kb0, kb1⟩ := valid_bd hv
   obtain ⟨n, rfl⟩ : ∃ n : Nat, k = (n : Int) := ⟨k.toNat, by omega⟩
   have hP := prm hv
   have e1 : permV (n : Int) = .agg #[.int .i64 n, .int .i64 (f1N n : Int), .int .i64 (f2N n : Int)] := by unfold permV; rw [if_pos hv, Int.toNat_natCast]
   have e2 : permE (n : Int) = 0 := by unfold permE; rw [if_pos hv]
   have e3 : invR (n : Int) = invT n n := by unfold invR; rw [if_pos hv, Int.toNat_natCast]; rfl
   rw [e2, e3]
   have ho := fun W => Lib.hid (of_any (n : Int) W)
   rw [e1, e2] at ho
   have hf1 := hP.b1
   have hf2 := hP.b2
   have HT : Hid (∀ j, invT n (j + 1) = (invT n j).set ((f1N n * j + f2N n * j % n * j) % n) (j : Int)) := Lib.hid (fun j => rfl)
   have hT0 : invT n 0 = List.replicate n 0 := rfl
   clear e1 e2 e3 hv hP
   generalize invT n = T at *
   generalize f1N n = f1 at *
   generalize f2N n = f2 at *
   go_enter Tryz.func213, Tryz.ntmps213
   go_wp2_with fail
   refine (ho _).out.mono ?_
   rintro e w1 ⟨rfl, hB1⟩
   have hO1 := Obj3.new w1 n f1 f2
   go_wp2_with (at_make; refine list_of rfl fun K hK => wp_mk (n := n) _ _ 39 rfl el33 rfl rfl (by omega) (by unfold maxLen; omega) ?_; intro Am wm hOm hBm hA; refine hK _ _ ?_; clear hK K)
   have hsz := hB1.size
   have hO2 : Obj3 wm w.heap.size w1.heap.size n f1 f2 := (hO1.mono hsz).below hBm
   have hblk : blk Am ≠ w1.heap.size := by
    have := (Ownv.blk_ge hOm (by omega)).1
    simp at this
    omega
   have hst : MakSt w wm n f1 f2 w1.heap.size Am T 0 := ⟨Own.of_eq (Ownv.mono hOm (by simp; omega)) rfl (by rw [hT0]; simp), hO2, (hB1.alloc hsz _).trans (hBm.mono (by simp; omega))⟩
   have HBLK := Lib.hid hblk
   clear hO1 hO2 hOm hBm hblk hsz hB1 hT0
   generalize w1.heap.size = b at *
   go_loopw [21] (fun i wr => MakInv w n f1 f2 b Am T i wr) (fun i _ => n - (intOf i).toNat)
   case atStart => exact ⟨0, by omega, rfl, hst⟩
   case round =>
    obtain ⟨j, hj, rfl, hO, hobj, hB⟩ := hrel
    clear hst
    by_cases hlt : j < n
    · obtain ⟨c0, c1, c2, f0, f1', f2'⟩ := hobj.facts
      have ha := fun W => Lib.hid (at_any n f1 f2 j (by omega) (by omega) hf1 hf2 (by omega) W)
      obtain ⟨pv, hpv⟩ : ∃ pv, pv = (f1 * j + f2 * j % n * j) % n := ⟨_, rfl⟩
      have hpn : pv < n := by rw [hpv]; exact Nat.mod_lt _ (by omega)
      have HPV := Lib.hid hpv
      rw [← hpv] at ha
      clear f0 f1' f2' hpv
      unfold polyV at ha
      go_wp2_with (first
       | (go_at_call 209; refine (ha _).out.mono ?_; rintro e w4 ⟨rfl, hB4⟩)
       | (go_at_call 215; refine (invset_any Am n n (T j) pv (j : Int) w.heap.size _ (Ownv.below hO hB4) hpn).mono ?_; rintro e w5 ⟨rfl, hO5, hg5⟩))
      refine ⟨⟨j + 1, by omega, by go_num, by rw [HT.out j, ← HPV.out]; exact hO5, Ownv.grown (hobj.below hB4) hg5 (fun _ he => HBLK.out (Option.some.inj he).symm), ?_⟩, by simp [intOf]; omega⟩
      have hB' := hB.trans (hB4.mono hB.size)
      exact grown_below hB' hg5 (Ownv.blk_ge hO (by omega)).1 hB'.size
    · obtain rfl : j = n := by omega
      go_wp2
      go_ret2
      exact ⟨Am, j, rfl, hO, hB⟩
 · have e1 : permV k = .agg #[.int .i64 0, .int .i64 0, .int .i64 0] := by unfold permV; rw [if_neg hv]
   have e2 : permE k = 2 := by unfold permE; rw [if_neg hv]
   have e3 : invR k = [] := by unfold invR; rw [if_neg hv]
   rw [e2, e3]
   have ho := fun W => Lib.hid (of_any k W)
   rw [e1, e2] at ho
   clear e1 e2 e3 hv
   go_enter Tryz.func213, Tryz.ntmps213
   go_wp2_with fail
   refine (ho _).out.mono ?_
   rintro e w1 ⟨rfl, hB1⟩
   go_wp2
   go_ret2
   exact ⟨none, 0, rfl, Own.nilv _ _ _ _, hB1.alloc hB1.size _⟩
theorem inverse_any (k : Int) (w : World) : Calls Tryz.prog 169 #[.int .i64 k] w fun e w' => ∃ A n, e = .returned (.tuple #[.slice A n n, .int .i64 (permE k)]) ∧ Own .i64 3 w' w.heap.size A n n (invR k) ∧ Below w.heap.size w w' := by
 go_enter Tryz.func169, Tryz.ntmps169
 go_wp2_with fail
 refine (madev_any k _).mono ?_
 rintro e w1 ⟨A, n, rfl, hO, hB⟩
 go_wp2
 go_ret2
 exact ⟨A, n, rfl, hO, hB⟩
theorem invT_gi {k : Nat} (h1 : ∀ i, i < k → piN k i < k) (h2 : ∀ i j, i < k → j < k → piN k i = piN k j → i = j) : ∀ n, n ≤ k → ∀ i, i < n → gi (invT k n) (piN k i) = (i : Int)
 | 0, _, i, hi => by omega
 | n + 1, hn, i, hi => by
   simp only [invT]
   rw [gi_set _ _ _ _ (by rw [invT_len]; exact h1 n (by omega))]
   by_cases e : piN k n = piN k i
   · rw [if_pos e, h2 n i (by omega) (by omega) e]
   · rw [if_neg e]
     have : i ≠ n := fun h => e (by rw [h])
     exact invT_gi h1 h2 n (by omega) i (by omega)
end Go.Proofs.YtkdfefpnhaebfaaGreat.Tu
namespace Go.Proofs.YtkdfefpnhaebfaaGreat
open Go.RowKit
def obH (vs : List Int) (k code : Nat) (a : List Int) : Ob := ⟨pk vs (Tu.sysL k code), pk vs (Tu.parI k code), a⟩
def cdN (h : Nat) : Nat := if h % 2 = 1 then 1 else 2
def bkL (k code : Nat) : List Int := if code = 1 then Tu.ordL k else Tu.invL k
noncomputable def apN (vs : List Int) (k : Nat) : Nat → List Int
 | 0 => List.replicate k 0
 | h + 1 => pk (obH vs k (cdN (h + 1)) (apN vs k h)).dE (bkL k (cdN (h + 1)))
noncomputable def obN (vs : List Int) (k h : Nat) : Ob := obH vs k (cdN (h + 1)) (apN vs k h)
noncomputable def decN (vs : List Int) (k h : Nat) : List Int := if cdN (h + 1) = 1 then (obN vs k h).dB else pk (obN vs k h).dB (Tu.invL k)
theorem sys_len (k code : Nat) : (Tu.sysL k code).length = k + 3 := by simp [Tu.sysL, Tu.stepsP_len]
theorem par_len (k code : Nat) : (Tu.parI k code).length = k + 3 := by simp [Tu.parI, Tu.stepsP_len]
theorem cnt2 (f : Nat → Nat) (i j t : Nat) (hij : i < j) (hi : f i = t) (hj : f j = t) : ∀ k, j < k → 2 ≤ ((List.range k).map f).count t
 | 0, h => by omega
 | k + 1, h => by
   rw [List.range_succ, List.map_append, List.count_append]
   by_cases e : j = k
   · subst e
     have h1 : 0 < ((List.range j).map f).count t := List.count_pos_iff.2 (List.mem_map.2 ⟨i, List.mem_range.2 hij, hi⟩)
     have h2 : [f j].count t = 1 := by rw [hj]; simp
     rw [List.map_cons, List.map_nil, h2]; omega
   · have := cnt2 f i j t hij hi hj k (by omega)
     omega
section
variable {k u : Nat} (hk : k = Tu.szK u)
include hk
theorem pi_inj (i j : Nat) (hi : i < k) (hj : j < k) (e : Tu.piN k i = Tu.piN k j) : i = j := by
 have hp := Tu.perm_map hk
 have h1 := hp.2 (Tu.piN k i) (hp.1 i hi)
 rcases Nat.lt_trichotomy i j with h | h | h
 · have := cnt2 (Tu.piN k) i j _ h rfl e.symm k hj
   omega
 · exact h
 · have := cnt2 (Tu.piN k) j i _ h e.symm rfl k hi
   omega
theorem inv_gi (i : Nat) (hi : i < k) : gi (Tu.invL k) (Tu.piN k i) = (i : Int) := Tu.invT_gi (Tu.perm_map hk).1 (fun i j => pi_inj hk i j) k (Nat.le_refl _) i hi
theorem pi_inv (i : Nat) (hi : i < k) : ∃ j, j < k ∧ Tu.piN k j = i ∧ gi (Tu.invL k) i = (j : Int) := by
 obtain ⟨j, hj, e⟩ := Tu.pi_onto u i (by rw [← hk]; exact hi)
 rw [← hk] at hj e
 exact ⟨j, hj, e, by rw [← e]; exact inv_gi hk j hj⟩
theorem sys_bd {code : Nat} (hc : code = 1 ∨ code = 2) {j : Nat} (hj : j < k + 3) : ∃ p : Nat, gi (Tu.sysL k code) j = (p : Int) ∧ p < 3 * (k + 4) := by
 have hm := gi_mem (Tu.sysL k code) j (by rw [sys_len]; exact hj)
 obtain ⟨v, hv⟩ : ∃ v, gi (Tu.sysL k code) j = v := ⟨_, rfl⟩
 rw [hv] at hm ⊢
 rw [Tu.sysL_eq] at hm
 rcases List.mem_append.1 hm with h | h
 · unfold Tu.sysP at h
   obtain ⟨q, hq, rfl⟩ := List.mem_map.1 h
   have hq := List.mem_range.1 hq
   rw [Tu.osL_gi k code q hc hq]
   refine ⟨_, rfl, ?_⟩
   split
   · omega
   · have := (Tu.perm_map hk).1 q hq; omega
 · have ha : Tu.atN k code ≤ k + 2 := by unfold Tu.atN; omega
   simp only [List.mem_cons, List.not_mem_nil, or_false] at h
   rcases h with rfl | rfl | rfl
   · exact ⟨_, rfl, by omega⟩
   · exact ⟨_, rfl, by omega⟩
   · exact ⟨_, rfl, by omega⟩
omit hk in
theorem par_bd {code : Nat} (hc : code = 1 ∨ code = 2) {j : Nat} (hj : j < k + 3) : ∃ p : Nat, gi (Tu.parI k code) j = (p : Int) ∧ p < 3 * (k + 4) := by
 have hm := gi_mem (Tu.parI k code) j (by rw [par_len]; exact hj)
 obtain ⟨v, hv⟩ : ∃ v, gi (Tu.parI k code) j = v := ⟨_, rfl⟩
 rw [hv] at hm ⊢
 rw [Tu.parI_eq] at hm
 rcases List.mem_append.1 hm with h | h
 · unfold Tu.parP at h
   obtain ⟨q, hq, rfl⟩ := List.mem_map.1 h
   have hq := List.mem_range.1 hq
   refine ⟨_, rfl, ?_⟩
   rcases hc with rfl | rfl <;> omega
 · have ha : Tu.atN k code ≤ k + 2 := by unfold Tu.atN; omega
   simp only [List.mem_cons, List.not_mem_nil, or_false] at h
   rcases h with rfl | rfl | rfl
   · exact ⟨_, rfl, by omega⟩
   · exact ⟨_, rfl, by omega⟩
   · exact ⟨_, rfl, by omega⟩
def Sgn (vs : List Int) (k : Nat) (x : List Bool) (m : Nat → Int) : Prop := ∀ q, q < 3 * (k + 4) → gi vs q = m q * (1 - 2 * (bq (Tu.gB (Tu.wrd x) q) : Int)) ∧ 1 ≤ m q ∧ m q ≤ 127
theorem ob_rgt {x : List Bool} {vs : List Int} {m : Nat → Int} {code : Nat} {a : List Int} (hx : x.length = k) (hc : code = 1 ∨ code = 2) (hv : Sgn vs k x m) (hal : a.length = k)
 (ha : ∀ j, j < k → 0 ≤ gi a j * (1 - 2 * (bq ((Tu.inC x code).getD j false) : Int)) ∧ -127 ≤ gi a j ∧ gi a j ≤ 127) :
 Rgt (obH vs k code a) k (Tu.inC x code) (fun j => m (gi (Tu.sysL k code) j).toNat) (fun j => m (gi (Tu.parI k code) j).toNat) := by
 have hb := Tu.szK_bd u
 rw [← hk] at hb
 refine ⟨by rw [Tu.inC_len, hx], by omega, by omega, by show (pk _ _).length = _; rw [pk_len, sys_len], by show (pk _ _).length = _; rw [pk_len, par_len], hal, fun j hj => ?_, fun j hj => ?_, ha⟩
 · obtain ⟨p, e, hp⟩ := sys_bd hk hc hj
   obtain ⟨h1, h2, h3⟩ := hv p hp
   have hs : Tu.gB (Tu.selB (Tu.wrd x) (Tu.sysL k code)) j = Tu.gB (inW (Tu.inC x code)) j := by rw [Tu.sel_sys hx hk hc]; rfl
   have hw : Tu.gB (Tu.selB (Tu.wrd x) (Tu.sysL k code)) j = Tu.gB (Tu.wrd x) p := by
    unfold Tu.selB Tu.gB
    rw [List.getD_eq_getElem?_getD, List.getElem?_map, List.getElem?_eq_getElem (by rw [sys_len]; exact hj), ← gi_eq _ _ (by rw [sys_len]; exact hj), e]
    simp [List.getD]
   rw [hw] at hs
   show gi (pk vs _) j = _ ∧ _
   rw [gi_pk (by rw [sys_len]; exact hj), e, Int.toNat_natCast, h1, hs]
   exact ⟨rfl, h2, h3⟩
 · obtain ⟨p, e, hp⟩ := par_bd (k := k) hc hj
   obtain ⟨h1, h2, h3⟩ := hv p hp
   have hs : Tu.gB (Tu.selB (Tu.wrd x) (Tu.parI k code)) j = Tu.gB (outW (Tu.inC x code)) j := by rw [Tu.sel_par hx hc]; rfl
   have hw : Tu.gB (Tu.selB (Tu.wrd x) (Tu.parI k code)) j = Tu.gB (Tu.wrd x) p := by
    unfold Tu.selB Tu.gB
    rw [List.getD_eq_getElem?_getD, List.getElem?_map, List.getElem?_eq_getElem (by rw [par_len]; exact hj), ← gi_eq _ _ (by rw [par_len]; exact hj), e]
    simp [List.getD]
   rw [hw] at hs
   show gi (pk vs _) j = _ ∧ _
   rw [gi_pk (by rw [par_len]; exact hj), e, Int.toNat_natCast, h1, hs]
   exact ⟨rfl, h2, h3⟩
theorem mix_get {x : List Bool} (hx : x.length = k) {j : Nat} (hj : j < k) : (Tu.mixB x).getD j false = x.getD (Tu.piN k j) false := by
 subst hx
 unfold Tu.mixB
 simp [List.getD, hj]
theorem clean_two {x : List Bool} {vs : List Int} {m : Nat → Int} (hx : x.length = k) (hv : Sgn vs k x m) : decN vs k 0 = x.map ib ∧ decN vs k 1 = x.map ib := by
 have r1 := ob_rgt hk hx (.inl rfl) hv (a := List.replicate k 0) (List.length_replicate ..) (fun j hj => by rw [gi_zero]; omega)
 obtain ⟨d1, l1, e1⟩ := clean_plain r1
 have ha : ∀ j, j < k → gi (apN vs k 1) j = gi (obH vs k 1 (List.replicate k 0)).dE (Tu.piN k j) := fun j hj => by
  show gi (pk _ (Tu.ordL k)) j = _
  rw [gi_pk (by rw [Tu.ordL_len]; exact hj)]
  congr 1
  rw [gi_eq _ _ (by rw [Tu.ordL_len]; exact hj)]
  simp [Tu.ordL]
 have hal : (apN vs k 1).length = k := by show (pk _ (Tu.ordL k)).length = k; rw [pk_len, Tu.ordL_len]
 have r2 := ob_rgt hk hx (.inr rfl) hv (a := apN vs k 1) hal (fun j hj => by
  rw [ha j hj]
  show 0 ≤ _ * (1 - 2 * (bq ((Tu.mixB x).getD j false) : Int)) ∧ _
  rw [mix_get hk hx hj]
  exact e1 _ ((Tu.perm_map hk).1 j hj))
 obtain ⟨d2, -, -⟩ := clean_plain r2
 refine ⟨d1, ?_⟩
 show pk (obH vs k 2 (apN vs k 1)).dB (Tu.invL k) = _
 rw [d2]
 have il : (Tu.invL k).length = k := Tu.invT_len k k
 refine ext_gi (by rw [pk_len, il]; simp [hx]) fun i hi => ?_
 have hi : i < k := by rw [pk_len, il] at hi; exact hi
 obtain ⟨j, hj, e2, e3⟩ := pi_inv hk i hi
 rw [gi_pk (by rw [il]; exact hi), e3, Int.toNat_natCast]
 show gi ((Tu.mixB x).map ib) j = _
 rw [gi_ib _ _ (by rw [Tu.mixB_len, hx]; exact hj), gi_ib _ _ (by rw [hx]; exact hi)]
 have := mix_get hk hx hj
 rw [e2] at this
 simp only [List.getD_eq_getElem?_getD] at this
 rw [List.getElem?_eq_getElem (by rw [Tu.mixB_len, hx]; exact hj), List.getElem?_eq_getElem (by rw [hx]; exact hi)] at this
 simp only [Option.getD_some] at this
 rw [this]
end
end Go.Proofs.YtkdfefpnhaebfaaGreat
namespace Go.Proofs.YtkdfefpnhaebfaaGreat.Tu
open Go.RowKit Go.Shelf
attribute [local go_sem] Oper.semAt_some
end Go.Proofs.YtkdfefpnhaebfaaGreat.Tu
