/-
  Contract of the reference's turbo Encode: the word of its bits, or the error. Condition: a bound on the length.
-/
import Derived.Test.YtkagdiejpcfggaaX
import Derived.Deep.DeepCutAuto
namespace Go.Proofs.Ytkagdiejpcfggaa
open Go.RowKit
set_option linter.unusedVariables false
section
variable {P : Program} {w w' w0 : World} {A B : Option Addr} {n c m d g : Nat} {vs us : List Value} {e : TypeId}
theorem bal (h : Below w0.heap.size w0 w) (o : Obj) : Below w0.heap.size w0 (w.alloc o) := h.alloc h.size o
theorem heap_new' {N : Nat} {o : Obj} (hN : N = w.heap.size) : (w.alloc o).heap[N]? = some o := by subst hN; exact heap_alloc_new _ _
theorem heap_old' {N : Nat} {o x : Obj} (h : w.heap[N]? = some x) : (w.alloc o).heap[N]? = some x := by
  rw [heap_alloc_old (h := (Array.getElem?_eq_some_iff.1 h).1)]; exact h
theorem Ownv.of_heap {cs : Array Value} {base : Nat} (h : w.heap[g]? = some (.cells cs e (0, 0))) (hb : base ≤ g) (hm : cs.size ≤ maxLen) : Ownv e w base (some ⟨g, 0, none⟩) cs.size cs.size cs.toList :=
  ⟨by simp, .inr ⟨g, cs.size, cs, rfl, hb, h, Nat.le_refl _, hm, by simp, by rw [Nat.mul_one]; exact List.take_of_length_le (by simp)⟩⟩
/-- append onto a row made since w0; all that is older stays -/
theorem wp_appB {o : Oper} {a : Act} {K : Act → World → Prop} {Q : Exit → Act → World → Prop} (s x : Operand) (t : TypeId)
    (ho : o.op = .call { callee := .builtin .append, args := #[s, x], argTypes := #[t, t] }) {z : Value} {bytes : Nat} (hE : El P t e z bytes) (hs : a.eval s = .slice A n c) (hx : a.eval x = .slice B m d)
    (hB : Below w0.heap.size w0 w) (hO : Ownv e w w0.heap.size A n c vs) (hR : Rdv w B m d us) (h1 : ∀ u ∈ us, u.oneCell' = true) (hby : (n + m) * bytes ≤ 140737488355328) (hm : n + m ≤ maxLen)
    (h : ∀ A' c' w', Ownv e w' w0.heap.size A' (n + m) c' (vs ++ us) → Below w0.heap.size w0 w' → (∀ g, g < w.heap.size → some g ≠ (Value.slice A n c).ownBlock → w'.heap[g]? = w.heap[g]?) → K (a.put o.dst (.slice A' (n + m) c')) w') : o.wp P a w K Q := by
  refine wp_app s x t ho hE hs hx hO hR h1 hby hm hB.size ?_
  intro A' c' w' h2 h3
  exact h A' c' w' h2 (hB.grown h3 hB.size (fun k hk => Ownv.ob' hO hk)) h3.block
end
theorem heap_lt {w : World} {g : Nat} {x : Obj} (h : w.heap[g]? = some x) : g < w.heap.size := (Array.getElem?_eq_some_iff.1 h).1
set_option maxRecDepth 100000 in
theorem renc_len (A : Option Addr) (n c : Nat) (w : World) (hv : validK (n : Int) = false) :
    Calls Try.prog 12 #[.slice A n c] w fun e w' => e = .returned (.tuple #[.slice none 0 0, .int .i64 2]) ∧ Below w.heap.size w w' := by
  have ho := fun W => Lib.hid (rorder_any (n : Int) W)
  have e1 : permE (n : Int) = 2 := by unfold permE; rw [if_neg (by rw [hv]; decide)]
  rw [e1] at ho
  clear e1 hv
  go_enter Try.func12, Try.ntmps12
  go_wp2_with (go_at_call 32; refine (ho _).out.mono ?_; rintro e w1 ⟨B, m, d, rfl, hO, hB⟩)
  go_ret2
  exact ⟨rfl, hB⟩
set_option maxRecDepth 100000 in
theorem renc_bit (A : Option Addr) (n c : Nat) (xs : List Int) (w : World) (h : Rd .u8 w A n c xs) (h0 : ∀ x ∈ xs, 0 ≤ x) (hv : validK (n : Int) = true) (hb : ValidB xs = false) :
    Calls Try.prog 12 #[.slice A n c] w fun e w' => e = .returned (.tuple #[.slice none 0 0, .int .i64 3]) ∧ Below w.heap.size w w' := by
  have ho := fun W => Lib.hid (rorder_any (n : Int) W)
  have e1 : permE (n : Int) = 0 := by unfold permE; rw [if_pos hv]
  obtain ⟨n0, n1⟩ := valid_len hv
  rw [e1] at ho
  have hq := fun W h => Lib.hid (rtencode_bad A n c xs W h h0 (by omega) hb)
  have HH := Lib.hid h
  clear e1 hv hb h h0
  go_enter Try.func12, Try.ntmps12
  go_wp2_with (first
    | (go_at_call 32; refine (ho _).out.mono ?_; rintro e w1 ⟨B, m, d, rfl, hO, hB⟩)
    | (go_at_call 33; refine (hq _ (Rdv.below HH.out hB)).out.mono ?_; rintro e w2 ⟨rfl, hB2⟩))
  go_ret2
  exact ⟨rfl, hB.trans (hB2.mono hB.size)⟩
def RMixInv (w : World) (n : Nat) (M : Option Addr) (xs : List Int) (i : Value) (wr : World) : Prop :=
  ∃ (j : Nat) (vs : List Int), j ≤ n ∧ i = .int .i64 j ∧ Own .u8 5 wr w.heap.size M n n vs ∧ (∀ q, q < j → gi vs q = gi xs (piN n q)) ∧ Below w.heap.size w wr
theorem ordR_gi {n : Nat} (hv : validK (n : Int) = true) {j : Nat} (hj : j < n) : gi (ordR (n : Int)) j = (piN n j : Int) := by
  unfold ordR
  rw [if_pos hv, Int.toNat_natCast]
  rw [gi_eq _ _ (by simp [ordL]; omega)]
  simp [ordL]
theorem own_ne_size {e : TypeId} {w : World} {base : Nat} {A : Option Addr} {n c : Nat} {vs : List Value} (h : Ownv e w base A n c vs) : some w.heap.size ≠ (Value.slice A n c).ownBlock := fun he => by
  have := (h.ow.lt _ he.symm).2
  omega
def RegP (W0 : World) (N : Nat) (V : List Value) (v : Value) (wx : World) : Prop := ∃ A c, v = .slice A N c ∧ Ownv 5 wx W0.heap.size A N c V ∧ Below W0.heap.size W0 wx
set_option maxRecDepth 100000 in
set_option maxHeartbeats 1000000 in
theorem renc_any (A : Option Addr) (n c : Nat) (bs : List Bool) (w : World) (h : Rd .u8 w A n c (bs.map ib)) (hv : validK (n : Int) = true) :
    Calls Try.prog 12 #[.slice A n c] w fun e w' => ∃ A' c', e = .returned (.tuple #[.slice A' (3 * (n + 4)) c', .int .i64 0]) ∧ Own .u8 5 w' w.heap.size A' (3 * (n + 4)) c' (wordI bs) ∧ Below w.heap.size w w' := by
  have hbd := h.bd.1
  obtain ⟨n0, n1⟩ := valid_len hv
  have hlen : bs.length = n := by have := h.len; simpa using this
  have HMIX : Hid ((mixB bs).map ib = (List.range n).map (fun i => gi (bs.map ib) (piN n i))) := Lib.hid (by
    rw [← mixR_ib bs (by rw [hlen]; exact hv)]; unfold mixR; rw [List.length_map, hlen, if_pos hv])
  have HML := Lib.hid (mixB_len bs)
  have HLEN := Lib.hid hlen
  have ho := fun W => Lib.hid (rorder_any (n : Int) W)
  have e1 : permE (n : Int) = 0 := by unfold permE; rw [if_pos hv]
  rw [e1] at ho
  have HORD : Hid (∀ j, j < n → gi (ordR (n : Int)) j = (piN n j : Int)) := Lib.hid (fun j hj => ordR_gi hv hj)
  have HH := Lib.hid h
  clear e1 h hlen
  go_enter Try.func12, Try.ntmps12
  go_wp2_with fail
  refine (ho _).out.mono ?_
  rintro e w1 ⟨D, l, d, rfl, hOD, hB1⟩
  obtain rfl : n = l := by
    have h9 := (Own.rd hOD).len
    unfold ordR at h9
    rw [if_pos hv, Int.toNat_natCast] at h9
    simpa [ordL] using h9
  have HOD := Lib.hid hOD
  have HB1 := Lib.hid hB1
  clear hOD hB1 ho hv
  have hq := fun W h => Lib.hid (rtencode_any A n c bs W h (by omega) (by omega))
  go_wp2_with fail
  refine (hq _ (Rdv.below HH.out HB1.out)).out.mono ?_
  rintro e w2 ⟨A1, c1, rfl, hP1, hB2⟩
  have HB2 := Lib.hid (HB1.out.trans (hB2.mono HB1.out.size))
  have HOD2 := Lib.hid (Ownv.below HOD.out hB2)
  have HP1 := Lib.hid (Ownv.mono hP1 HB1.out.size)
  clear hP1 hB2 hq HOD HB1
  go_wp2_with (at_make; refine list_of rfl fun K hK => wp_mk (n := n) _ _ 22 rfl el22 rfl rfl (by omega) (by unfold maxLen; omega) ?_; intro M wm hOm hBm hM; refine hK _ _ ?_; clear hK K)
  have hst : RMixInv w2 n M (bs.map ib) (.int .i64 0) wm := ⟨0, List.replicate n 0, by omega, rfl, Own.of_eq hOm rfl (by simp), by intro q hq; omega, hBm⟩
  have HHB := Lib.hid (Rdv.below HH.out HB2.out)
  clear hOm hBm
  go_loopw [11] (fun i wr => RMixInv w2 n M (bs.map ib) i wr) (fun i _ => n - (intOf i).toNat)
  case atStart => exact hst
  case round =>
    obtain ⟨j, vs, hj, rfl, hO, hq, hB⟩ := hrel
    clear hst
    by_cases hlt : j < n
    · have hR := Ownv.rd (Ownv.below HOD2.out hB)
      have hx := Rdv.below HHB.out hB
      have hp : piN n j < n := Nat.mod_lt _ (by omega)
      have hix := fun W => Rdv.ix hR el33 hlt .i64 W
      have hcell : wr.cell? (adr D j) = some (.int .i64 (gi (ordR (n : Int)) j)) := Rd.cell hR hlt
      rw [HORD.out j hlt] at hcell
      have HPI : Hid (piN n j = piN n j) := Lib.hid rfl
      generalize hpv : piN n j = pv at *
      have HPV := Lib.hid hpv
      have hix2 := fun W => Rdv.ix hx el22 hp .i64 W
      have hcell2 := Rd.cell hx hp
      have hix3 := fun W => Rdv.ix (Own.rd hO) el22 hlt .i64 W
      have hcell3 := Rd.cell (Own.rd hO) hlt
      have hfz := Ownv.frozen hO (by omega) j
      have HSET := Lib.hid (Own.set_ hO hlt (gi (bs.map ib) pv))
      have HQ := Lib.hid hq
      have HB := Lib.hid hB
      have HL := Lib.hid (Own.rd hO).len
      have HGE := Lib.hid (Ownv.blk_ge hO (by omega)).1
      clear hpv hR hx hq hB hO
      go_wp2
      go_roundw
      case rel =>
        refine ⟨j + 1, _, by omega, by go_num, HSET.out.1, fun q hq => ?_, HB.out.grown HSET.out.2 HB.out.size (fun k hk => by have := Option.some.inj hk; have := HGE.out; omega)⟩
        rw [gi_set _ _ _ _ (by rw [HL.out]; exact hlt)]
        by_cases e : j = q
        · subst e; rw [if_pos rfl, HPV.out]
        · rw [if_neg e]; exact HQ.out q (by omega)
      case measure => simp [intOf]; omega
    · obtain rfl : j = n := by omega
      have hmx : vs = (mixB bs).map ib := by
        rw [HMIX.out]
        have hl := (Own.rd hO).len
        refine ext_gi (by rw [hl]; simp) fun q hq' => ?_
        rw [hq q (by omega), gi_eq ((List.range j).map _) q (by simp; omega), List.getElem_map, List.getElem_range]
      subst hmx
      have hqm := fun W h => Lib.hid (rtencode_any M j j (mixB bs) W h (by omega) (by omega))
      have HO := Lib.hid hO
      have HB := Lib.hid hB
      clear hq hO hB
      have ht1 := fun W => Lib.hid (rtail_any (fin bs) W)
      have ht2 := fun W => Lib.hid (rtail_any (fin (mixB bs)) W)
      unfold tails at ht1 ht2
      generalize hs : fin bs = s at *
      generalize hm : fin (mixB bs) = m at *
      have HS := Lib.hid hs
      have HM := Lib.hid hm
      clear hs hm
      go_wp2_with fail
      refine (hqm _ (Own.rd HO.out)).out.mono ?_
      rintro e w4 ⟨A2, c2, rfl, hP2, hB4⟩
      have HB4 := Lib.hid hB4
      have HP2 := Lib.hid hP2
      clear hqm hB4 hP2
      go_wp2_with fail
      refine (ht1 _).out.mono ?_
      rintro e w5 ⟨rfl, hB5⟩
      have HB5 := Lib.hid hB5
      clear hB5
      go_wp2_with fail
      refine (ht2 _).out.mono ?_
      rintro e w6 ⟨rfl, hB6⟩
      have HB6 := Lib.hid hB6
      clear hB6
      go_wp2_with fail
      have hB6 : Below w2.heap.size w2 w6 := ((((HB.out.trans (HB4.out.mono HB.out.size)).trans (HB5.out.mono (by have := HB.out.size; have := HB4.out.size; omega))).alloc (by have := HB.out.size; have := HB4.out.size; have := HB5.out.size; omega) (.cells #[.int .u8 (ib (tu s 0)), .int .u8 (ib (tu s 1)), .int .u8 (ib (tu s 2))] 53)).alloc (by have := HB.out.size; have := HB4.out.size; have := HB5.out.size; simp; omega) (.cells #[.int .u8 (ib (tz s 0)), .int .u8 (ib (tz s 1)), .int .u8 (ib (tz s 2))] 53)).trans (HB6.out.mono (by have := HB.out.size; have := HB4.out.size; have := HB5.out.size; simp; omega))
      have hB7 := bal (bal hB6 (.cells #[.int .u8 (ib (tu m 0)), .int .u8 (ib (tu m 1)), .int .u8 (ib (tu m 2))] 53)) (.cells #[.int .u8 (ib (tz m 0)), .int .u8 (ib (tz m 1)), .int .u8 (ib (tz m 2))] 53)
      have hW4 := ((HB4.out.trans (HB5.out.mono HB4.out.size)))
      obtain ⟨W0, hW0⟩ : ∃ W, W = (w6.alloc (.cells #[.int .u8 (ib (tu m 0)), .int .u8 (ib (tu m 1)), .int .u8 (ib (tu m 2))] 53)).alloc (.cells #[.int .u8 (ib (tz m 0)), .int .u8 (ib (tz m 1)), .int .u8 (ib (tz m 2))] 53) := ⟨_, rfl⟩
      have lit : ∀ (W : World) (x y z : Int), Own .u8 53 (W.alloc (.cells #[.int .u8 x, .int .u8 y, .int .u8 z] 53)) 0 (some ⟨W.heap.size, 0, none⟩) 3 3 [x, y, z] := fun W x y z =>
        Own.of_eq (Ownv.lit W #[.int .u8 x, .int .u8 y, .int .u8 z] 53 rfl (Nat.zero_le _) (by show 3 ≤ maxLen; unfold maxLen; omega)) rfl rfl
      have aX : Own .u8 53 W0 0 (some ⟨w5.heap.size, 0, none⟩) 3 3 [ib (tu s 0), ib (tu s 1), ib (tu s 2)] := by
        rw [hW0]; exact Ownv.alloc (Ownv.alloc (Ownv.below (Ownv.alloc (lit w5 _ _ _) (.cells #[.int .u8 (ib (tz s 0)), .int .u8 (ib (tz s 1)), .int .u8 (ib (tz s 2))] 53)) HB6.out) _) _
      have aZ : Own .u8 53 W0 0 (some ⟨w5.heap.size + 1, 0, none⟩) 3 3 [ib (tz s 0), ib (tz s 1), ib (tz s 2)] := by
        have h9 := lit (w5.alloc (.cells #[.int .u8 (ib (tu s 0)), .int .u8 (ib (tu s 1)), .int .u8 (ib (tu s 2))] 53)) (ib (tz s 0)) (ib (tz s 1)) (ib (tz s 2))
        simp only [World.size_alloc] at h9
        rw [hW0]; exact Ownv.alloc (Ownv.alloc (Ownv.below h9 HB6.out) _) _
      have aU : Own .u8 53 W0 0 (some ⟨w6.heap.size, 0, none⟩) 3 3 [ib (tu m 0), ib (tu m 1), ib (tu m 2)] := by
        rw [hW0]; exact Ownv.alloc (lit w6 _ _ _) _
      have aV : Own .u8 53 W0 0 (some ⟨w6.heap.size + 1, 0, none⟩) 3 3 [ib (tz m 0), ib (tz m 1), ib (tz m 2)] := by
        have h9 := lit (w6.alloc (.cells #[.int .u8 (ib (tu m 0)), .int .u8 (ib (tu m 1)), .int .u8 (ib (tu m 2))] 53)) (ib (tz m 0)) (ib (tz m 1)) (ib (tz m 2))
        simp only [World.size_alloc] at h9
        rw [hW0]; exact h9
      rw [← hW0] at hB7
      have HBI := Lib.hid (Rdv.below HHB.out hB7)
      have HPA := Lib.hid (Ownv.rd (Ownv.below HP1.out hB7))
      have hB47 : Below w4.heap.size w4 W0 := by
        rw [hW0]
        exact bal (bal (((bal (bal HB5.out (.cells #[.int .u8 (ib (tu s 0)), .int .u8 (ib (tu s 1)), .int .u8 (ib (tu s 2))] 53)) (.cells #[.int .u8 (ib (tz s 0)), .int .u8 (ib (tz s 1)), .int .u8 (ib (tz s 2))] 53))).trans (HB6.out.mono (bal (bal HB5.out (.cells #[.int .u8 (ib (tu s 0)), .int .u8 (ib (tu s 1)), .int .u8 (ib (tu s 2))] 53)) (.cells #[.int .u8 (ib (tz s 0)), .int .u8 (ib (tz s 1)), .int .u8 (ib (tz s 2))] 53)).size)) _) _
      have HPB := Lib.hid (Ownv.rd (Ownv.below HP2.out hB47))
      have HBW : Hid (Below w.heap.size w W0) := Lib.hid (HB2.out.trans (hB7.mono HB2.out.size))
      have HAX := Lib.hid aX
      have HAZ := Lib.hid aZ
      have HAU := Lib.hid aU
      have HAV := Lib.hid aV
      rw [← hW0]
      clear hW0 aX aZ aU aV hB7 hB6 hB47 hW4 lit
      have HC0 : Hid (∀ W' : World, Below W0.heap.size W0 W' → W'.cell? ⟨w5.heap.size, 0, none⟩ = some (.int .u8 (ib (tu s 0))) ∧ W'.cell? ⟨w5.heap.size + 1, 1, none⟩ = some (.int .u8 (ib (tz s 1))) ∧ W'.cell? ⟨w6.heap.size, 0, none⟩ = some (.int .u8 (ib (tu m 0))) ∧ W'.cell? ⟨w6.heap.size + 1, 1, none⟩ = some (.int .u8 (ib (tz m 1)))) := Lib.hid (fun W' hB => ⟨by have := Rd.cell (Own.rd (Ownv.below HAX.out hB)) (j := 0) (by omega); simpa [gi] using this, by have := Rd.cell (Own.rd (Ownv.below HAZ.out hB)) (j := 1) (by omega); simpa [gi] using this, by have := Rd.cell (Own.rd (Ownv.below HAU.out hB)) (j := 0) (by omega); simpa [gi] using this, by have := Rd.cell (Own.rd (Ownv.below HAV.out hB)) (j := 1) (by omega); simpa [gi] using this⟩)
      go_cut [19] (fun v wx => RegP W0 (j + 4) (((bs.map ib)).map (Value.int .u8) ++ [.int .u8 (ib (tu s 0)), .int .u8 (ib (tz s 1)), .int .u8 (ib (tu m 0)), .int .u8 (ib (tz m 1))]) v wx)
      case first =>
        go_region_held3 (fun W => W.cell? ⟨w5.heap.size, 0, none⟩ = some (.int .u8 (ib (tu s 0))) ∧ W.cell? ⟨w5.heap.size + 1, 1, none⟩ = some (.int .u8 (ib (tz s 1))) ∧ W.cell? ⟨w6.heap.size, 0, none⟩ = some (.int .u8 (ib (tu m 0))) ∧ W.cell? ⟨w6.heap.size + 1, 1, none⟩ = some (.int .u8 (ib (tz m 1)))) (exact HC0.out _ (by first | exact (Below.refl _ W0) | exact (Below.refl _ W0).drew | exact bal (Below.refl _ W0).drew _ | exact bal (bal (Below.refl _ W0).drew _) _ | exact hB0a | exact bal hB0a _ | exact hB0b))
          (first
            | (refine step_of rfl ?_
               refine wp_appB (w0 := W0) (vs := []) (.tmp 70) (.tmp 71) 22 rfl el22 rfl rfl ?_ ?_ (us := ((bs.map ib)).map (Value.int .u8)) ?_ (oneCell_ints .u8 _) (by omega) (by unfold maxLen; omega) ?_
               · first | exact (Below.refl _ W0) | exact (Below.refl _ W0).drew | exact bal (Below.refl _ W0).drew _ | exact bal (bal (Below.refl _ W0).drew _) _ | exact hB0a | exact bal hB0a _ | exact hB0b
               · exact Ownv.of_heap (cs := #[]) (by first | exact heap_new' (by simp) | exact heap_old' (heap_new' (by simp))) (by simp) (by show 0 ≤ maxLen; omega)
               · refine Rdv.below HBI.out ?_
                 first | exact (Below.refl _ W0) | exact (Below.refl _ W0).drew | exact bal (Below.refl _ W0).drew _ | exact bal (bal (Below.refl _ W0).drew _) _ | exact hB0a | exact bal hB0a _ | exact hB0b
               intro A0a c0a w0a hO0a hB0a hk0
               have hO0r := hO0a
               rw [Nat.zero_add, List.nil_append] at hO0a)
            | (refine step_of rfl ?_
               refine wp_appB (w0 := W0) (vs := ((bs.map ib)).map (Value.int .u8)) (.tmp 72) (.tmp 81) 22 rfl el22 rfl rfl ?_ ?_ (us := [.int .u8 (ib (tu s 0)), .int .u8 (ib (tz s 1)), .int .u8 (ib (tu m 0)), .int .u8 (ib (tz m 1))]) ?_ ?_ ?_ ?_ ?_
               · first | exact (Below.refl _ W0) | exact (Below.refl _ W0).drew | exact bal (Below.refl _ W0).drew _ | exact bal (bal (Below.refl _ W0).drew _) _ | exact hB0a | exact bal hB0a _ | exact hB0b
               · first | exact hO0a | exact hO0a.alloc _ | exact hO0r | exact hO0r.alloc _
               · refine Ownv.rd (Ownv.of_heap (e := 5) (base := 0) (cs := #[.int .u8 (ib (tu s 0)), .int .u8 (ib (tz s 1)), .int .u8 (ib (tu m 0)), .int .u8 (ib (tz m 1))]) ?_ (Nat.zero_le _) (by show 4 ≤ maxLen; unfold maxLen; omega))
                 first | exact heap_new' (by simp) | exact (hk0 _ (by simp <;> omega) hne0).trans (heap_new' (by simp)) | exact (hk0 _ (by simp <;> omega) (by simp [Value.ownBlock])).trans (heap_new' (by simp)) | exact (hk0 _ (by simp <;> omega) (by simp [Value.ownBlock])).trans (heap_old' (heap_new' (by simp)))
               · exact oneCell_ints .u8 [(ib (tu s 0)), (ib (tz s 1)), (ib (tu m 0)), (ib (tz m 1))]
               · omega
               · unfold maxLen; omega
               intro A0b c0b w0b hO0b hB0b hk0b))
        all_goals (go_wp2_with fail; go_meet; exact ⟨A0b, c0b, by first | rfl | rw [Nat.zero_add], by first | exact hO0b | (have h9 := hO0b; rw [Nat.zero_add] at h9; exact h9), hB0b⟩)
      case rest =>
        obtain ⟨A0c, c0c, rfl, hO0c, hB0c⟩ := hcut
        have hne1 := own_ne_size hO0c
        go_wp2_with fail
        have HC1 : Hid (∀ W' : World, Below W0.heap.size W0 W' → W'.cell? ⟨w5.heap.size + 1, 0, none⟩ = some (.int .u8 (ib (tz s 0))) ∧ W'.cell? ⟨w5.heap.size, 2, none⟩ = some (.int .u8 (ib (tu s 2))) ∧ W'.cell? ⟨w6.heap.size + 1, 0, none⟩ = some (.int .u8 (ib (tz m 0))) ∧ W'.cell? ⟨w6.heap.size, 2, none⟩ = some (.int .u8 (ib (tu m 2)))) := Lib.hid (fun W' hB => ⟨by have := Rd.cell (Own.rd (Ownv.below HAZ.out hB)) (j := 0) (by omega); simpa [gi] using this, by have := Rd.cell (Own.rd (Ownv.below HAX.out hB)) (j := 2) (by omega); simpa [gi] using this, by have := Rd.cell (Own.rd (Ownv.below HAV.out hB)) (j := 0) (by omega); simpa [gi] using this, by have := Rd.cell (Own.rd (Ownv.below HAU.out hB)) (j := 2) (by omega); simpa [gi] using this⟩)
        go_cut [19] (fun v wx => RegP W0 (j + 4 + j + 4) ((((bs.map ib)).map (Value.int .u8) ++ [.int .u8 (ib (tu s 0)), .int .u8 (ib (tz s 1)), .int .u8 (ib (tu m 0)), .int .u8 (ib (tz m 1))]) ++ (((parL s0 bs).map ib)).map (Value.int .u8) ++ [.int .u8 (ib (tz s 0)), .int .u8 (ib (tu s 2)), .int .u8 (ib (tz m 0)), .int .u8 (ib (tu m 2))]) v wx)
        case first =>
          go_region_held3 (fun W => W.cell? ⟨w5.heap.size + 1, 0, none⟩ = some (.int .u8 (ib (tz s 0))) ∧ W.cell? ⟨w5.heap.size, 2, none⟩ = some (.int .u8 (ib (tu s 2))) ∧ W.cell? ⟨w6.heap.size + 1, 0, none⟩ = some (.int .u8 (ib (tz m 0))) ∧ W.cell? ⟨w6.heap.size, 2, none⟩ = some (.int .u8 (ib (tu m 2)))) (exact HC1.out _ (by first | exact hB0c | exact hB0c.drew | exact bal hB0c.drew _ | exact bal (bal hB0c.drew _) _ | exact hB1a | exact bal hB1a _ | exact hB1b))
            (first
              | (refine step_of rfl ?_
                 refine wp_appB (w0 := W0) (vs := (((bs.map ib)).map (Value.int .u8) ++ [.int .u8 (ib (tu s 0)), .int .u8 (ib (tz s 1)), .int .u8 (ib (tu m 0)), .int .u8 (ib (tz m 1))])) (.tmp 83) (.tmp 84) 22 rfl el22 rfl rfl ?_ ?_ (us := (((parL s0 bs).map ib)).map (Value.int .u8)) ?_ (oneCell_ints .u8 _) (by omega) (by unfold maxLen; omega) ?_
                 · first | exact hB0c | exact hB0c.drew | exact bal hB0c.drew _ | exact bal (bal hB0c.drew _) _ | exact hB1a | exact bal hB1a _ | exact hB1b
                 · first | exact hO0c | exact hO0c.drew | exact hO0c.drew.alloc _
                 · refine Rdv.below HPA.out ?_
                   first | exact hB0c | exact hB0c.drew | exact bal hB0c.drew _ | exact bal (bal hB0c.drew _) _ | exact hB1a | exact bal hB1a _ | exact hB1b
                 intro A1a c1a w1a hO1a hB1a hk1)
              | (refine step_of rfl ?_
                 refine wp_appB (w0 := W0) (vs := (((bs.map ib)).map (Value.int .u8) ++ [.int .u8 (ib (tu s 0)), .int .u8 (ib (tz s 1)), .int .u8 (ib (tu m 0)), .int .u8 (ib (tz m 1))]) ++ (((parL s0 bs).map ib)).map (Value.int .u8)) (.tmp 85) (.tmp 94) 22 rfl el22 rfl rfl ?_ ?_ (us := [.int .u8 (ib (tz s 0)), .int .u8 (ib (tu s 2)), .int .u8 (ib (tz m 0)), .int .u8 (ib (tu m 2))]) ?_ ?_ ?_ ?_ ?_
                 · first | exact hB0c | exact hB0c.drew | exact bal hB0c.drew _ | exact bal (bal hB0c.drew _) _ | exact hB1a | exact bal hB1a _ | exact hB1b
                 · first | exact hO1a | exact hO1a.alloc _
                 · refine Ownv.rd (Ownv.of_heap (e := 5) (base := 0) (cs := #[.int .u8 (ib (tz s 0)), .int .u8 (ib (tu s 2)), .int .u8 (ib (tz m 0)), .int .u8 (ib (tu m 2))]) ?_ (Nat.zero_le _) (by show 4 ≤ maxLen; unfold maxLen; omega))
                   first | exact heap_new' (by simp) | exact (hk1 _ (by simp <;> omega) hne1).trans (heap_new' (by simp)) | exact (hk1 _ (by simp <;> omega) (by simp [Value.ownBlock])).trans (heap_new' (by simp)) | exact (hk1 _ (by simp <;> omega) (by simp [Value.ownBlock])).trans (heap_old' (heap_new' (by simp)))
                 · exact oneCell_ints .u8 [(ib (tz s 0)), (ib (tu s 2)), (ib (tz m 0)), (ib (tu m 2))]
                 · omega
                 · unfold maxLen; omega
                 intro A1b c1b w1b hO1b hB1b hk1b))
          all_goals (go_wp2_with fail; go_meet; exact ⟨A1b, c1b, by first | rfl | rw [Nat.zero_add], by first | exact hO1b | (have h9 := hO1b; rw [Nat.zero_add] at h9; exact h9), hB1b⟩)
        case rest =>
          obtain ⟨A1c, c1c, rfl, hO1c, hB1c⟩ := hcut
          have hne2 := own_ne_size hO1c
          go_wp2_with fail
          have HC2 : Hid (∀ W' : World, Below W0.heap.size W0 W' → W'.cell? ⟨w5.heap.size, 1, none⟩ = some (.int .u8 (ib (tu s 1))) ∧ W'.cell? ⟨w5.heap.size + 1, 2, none⟩ = some (.int .u8 (ib (tz s 2))) ∧ W'.cell? ⟨w6.heap.size, 1, none⟩ = some (.int .u8 (ib (tu m 1))) ∧ W'.cell? ⟨w6.heap.size + 1, 2, none⟩ = some (.int .u8 (ib (tz m 2)))) := Lib.hid (fun W' hB => ⟨by have := Rd.cell (Own.rd (Ownv.below HAX.out hB)) (j := 1) (by omega); simpa [gi] using this, by have := Rd.cell (Own.rd (Ownv.below HAZ.out hB)) (j := 2) (by omega); simpa [gi] using this, by have := Rd.cell (Own.rd (Ownv.below HAU.out hB)) (j := 1) (by omega); simpa [gi] using this, by have := Rd.cell (Own.rd (Ownv.below HAV.out hB)) (j := 2) (by omega); simpa [gi] using this⟩)
          go_region_held3 (fun W => W.cell? ⟨w5.heap.size, 1, none⟩ = some (.int .u8 (ib (tu s 1))) ∧ W.cell? ⟨w5.heap.size + 1, 2, none⟩ = some (.int .u8 (ib (tz s 2))) ∧ W.cell? ⟨w6.heap.size, 1, none⟩ = some (.int .u8 (ib (tu m 1))) ∧ W.cell? ⟨w6.heap.size + 1, 2, none⟩ = some (.int .u8 (ib (tz m 2)))) (exact HC2.out _ (by first | exact hB1c | exact hB1c.drew | exact bal hB1c.drew _ | exact bal (bal hB1c.drew _) _ | exact hB2a | exact bal hB2a _ | exact hB2b))
            (first
              | (refine step_of rfl ?_
                 refine wp_appB (w0 := W0) (vs := ((((bs.map ib)).map (Value.int .u8) ++ [.int .u8 (ib (tu s 0)), .int .u8 (ib (tz s 1)), .int .u8 (ib (tu m 0)), .int .u8 (ib (tz m 1))]) ++ (((parL s0 bs).map ib)).map (Value.int .u8) ++ [.int .u8 (ib (tz s 0)), .int .u8 (ib (tu s 2)), .int .u8 (ib (tz m 0)), .int .u8 (ib (tu m 2))])) (.tmp 96) (.tmp 97) 22 rfl el22 rfl rfl ?_ ?_ (us := (((parL s0 (mixB bs)).map ib)).map (Value.int .u8)) ?_ (oneCell_ints .u8 _) (by omega) (by unfold maxLen; omega) ?_
                 · first | exact hB1c | exact hB1c.drew | exact bal hB1c.drew _ | exact bal (bal hB1c.drew _) _ | exact hB2a | exact bal hB2a _ | exact hB2b
                 · first | exact hO1c | exact hO1c.drew | exact hO1c.drew.alloc _
                 · refine Rdv.below HPB.out ?_
                   first | exact hB1c | exact hB1c.drew | exact bal hB1c.drew _ | exact bal (bal hB1c.drew _) _ | exact hB2a | exact bal hB2a _ | exact hB2b
                 intro A2a c2a w2a hO2a hB2a hk2)
              | (refine step_of rfl ?_
                 refine wp_appB (w0 := W0) (vs := ((((bs.map ib)).map (Value.int .u8) ++ [.int .u8 (ib (tu s 0)), .int .u8 (ib (tz s 1)), .int .u8 (ib (tu m 0)), .int .u8 (ib (tz m 1))]) ++ (((parL s0 bs).map ib)).map (Value.int .u8) ++ [.int .u8 (ib (tz s 0)), .int .u8 (ib (tu s 2)), .int .u8 (ib (tz m 0)), .int .u8 (ib (tu m 2))]) ++ (((parL s0 (mixB bs)).map ib)).map (Value.int .u8)) (.tmp 98) (.tmp 107) 22 rfl el22 rfl rfl ?_ ?_ (us := [.int .u8 (ib (tu s 1)), .int .u8 (ib (tz s 2)), .int .u8 (ib (tu m 1)), .int .u8 (ib (tz m 2))]) ?_ ?_ ?_ ?_ ?_
                 · first | exact hB1c | exact hB1c.drew | exact bal hB1c.drew _ | exact bal (bal hB1c.drew _) _ | exact hB2a | exact bal hB2a _ | exact hB2b
                 · first | exact hO2a | exact hO2a.alloc _
                 · refine Ownv.rd (Ownv.of_heap (e := 5) (base := 0) (cs := #[.int .u8 (ib (tu s 1)), .int .u8 (ib (tz s 2)), .int .u8 (ib (tu m 1)), .int .u8 (ib (tz m 2))]) ?_ (Nat.zero_le _) (by show 4 ≤ maxLen; unfold maxLen; omega))
                   first | exact heap_new' (by simp) | exact (hk2 _ (by simp <;> omega) hne2).trans (heap_new' (by simp)) | exact (hk2 _ (by simp <;> omega) (by simp [Value.ownBlock])).trans (heap_new' (by simp)) | exact (hk2 _ (by simp <;> omega) (by simp [Value.ownBlock])).trans (heap_old' (heap_new' (by simp)))
                 · exact oneCell_ints .u8 [(ib (tu s 1)), (ib (tz s 2)), (ib (tu m 1)), (ib (tz m 2))]
                 · omega
                 · unfold maxLen; omega
                 intro A2b c2b w2b hO2b hB2b hk2b))
          all_goals
            go_wp2
            go_ret2
            have e3 : 3 * (j + 4) = j + 4 + j + 4 + j + 4 := by omega
            refine ⟨A2b, c2b, by rw [e3]; rfl, Own.of_eq (Ownv.mono hO2b HBW.out.size) e3.symm ?_, HBW.out.trans (hB2b.mono HBW.out.size)⟩
            rw [wordI, wordB, HS.out, HM.out]
            simp
end Go.Proofs.Ytkagdiejpcfggaa
