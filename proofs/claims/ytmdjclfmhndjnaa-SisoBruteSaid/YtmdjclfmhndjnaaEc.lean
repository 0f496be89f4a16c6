/-
  Contracts of the laws' helpers flipped and word. Condition: lists that lie in memory; as many bits as values at the least; small values.
-/
import Derived.Test.YtmdjclfmhndjnaaEb
namespace Go.Proofs.Ytmdjclfmhndjnaa
open Go.RowKit
set_option linter.unusedVariables false
def FlI (w : World) (A : Option Addr) (n c : Nat) (xs : List Int) (bs : List Bool) (i : Value) (wr : World) : Prop :=
  ∃ (j : Nat) (vs : List Int), j ≤ n ∧ i = .int .i64 j ∧ Own .i64 3 wr w.heap.size A n c vs ∧ (∀ q, q < n → gi vs q = if q < j then gi (flp xs bs) q else gi xs q) ∧ Below w.heap.size w wr
set_option maxRecDepth 100000 in
set_option maxHeartbeats 1000000 in
theorem flipped_any (A B : Option Addr) (n c m d : Nat) (xs : List Int) (bs : List Bool) (w : World) (h : Rd .i64 w A n c xs) (hb : Rd .u8 w B m d (bs.map ib)) (hn : n ≤ 1000000) (hnm : n ≤ m)
    (hx : ∀ j, j < n → -4611686018427387904 ≤ gi xs j ∧ gi xs j ≤ 4611686018427387904) :
    Calls Try.prog 18 #[.slice A n c, .slice B m d] w fun e w' => ∃ A' c', e = .returned (.slice A' n c') ∧ Own .i64 3 w' w.heap.size A' n c' (flp xs bs) ∧ Below w.heap.size w w' := by
  have HO := Lib.hid (own_any A n c xs w h hn)
  have HB := Lib.hid hb
  have HX := Lib.hid hx
  have hxl := h.len
  have hbl : bs.length = m := by have := hb.len; simpa using this
  have HL := Lib.hid (And.intro hxl hbl)
  clear h hb hx hxl hbl
  go_enter Try.func18, Try.ntmps18
  go_wp2_with fail
  refine HO.out.mono ?_
  rintro e w1 ⟨A1, c1, rfl, hO1, hB1⟩
  have HO1 := Lib.hid hO1
  have HB1 := Lib.hid hB1
  clear hO1 hB1 HO
  go_wp2_with fail
  go_loopw [6] (fun i wr => FlI w A1 n c1 xs bs i wr) (fun i _ => n - (intOf i).toNat)
  case atStart => exact ⟨0, xs, by omega, rfl, HO1.out, fun q hq => by simp, HB1.out⟩
  case round =>
    obtain ⟨j, vs, hj, rfl, hO, hv, hBr⟩ := hrel
    by_cases hlt : j < n
    · have hbr := Rdv.below HB.out hBr
      have hc := Rd.cell hbr (j := j) (by omega)
      rw [gi_ib bs j (by rw [HL.out.2]; omega)] at hc
      have hib := fun W => Rdv.ix HB.out el26 (j := j) (by omega) .i64 W
      have hix := fun W => Rdv.ix (Own.rd hO) el22 hlt .i64 W
      have hfx := gi_flp xs bs j
      have hgd : bs.getD j false = bs[j]'(by rw [HL.out.2]; omega) := by simp [List.getD, show j < bs.length from by rw [HL.out.2]; omega]
      rw [hgd] at hfx
      have hv0 := hv j hlt
      rw [if_neg (by omega)] at hv0
      have hd : wr.cell? (adr A1 j) = some (.int .i64 (gi xs j)) := by rw [← hv0]; exact Rd.cell (Own.rd hO) hlt
      have hf : wr.frozen? (adr A1 j) = false := Ownv.frozen hO (by have := (Own.rd hO).le; omega) j
      have HV := Lib.hid hv
      have HO2 := Lib.hid hO
      have HBR := Lib.hid hBr
      have HW := Lib.hid (show IntKind.i64.wrap (-gi xs j) = -gi xs j from IntWalk.i64_in _ (by have := HX.out j hlt; omega))
      clear hbr hv hv0 hO hBr
      generalize bs[j]'_ = bj at *
      have HFX := Lib.hid hfx
      clear hfx hgd
      cases bj with
      | false =>
        have hb0 : ib false = 0 := rfl
        rw [hb0] at hc
        go_wp2
        go_roundw
        case rel =>
          refine ⟨j + 1, vs, by omega, by go_num, HO2.out, fun q hq => ?_, HBR.out⟩
          rw [HV.out q hq]
          by_cases e : q = j
          · subst e
            rw [if_neg (by omega), if_pos (by omega), HFX.out]
            simp [bq]
          · by_cases e2 : q < j
            · rw [if_pos e2, if_pos (by omega)]
            · rw [if_neg e2, if_neg (by omega)]
        case measure => simp [intOf]; omega
      | true =>
        have hb1 : ib true = 1 := rfl
        have hw := HW.out
        rw [hb1] at hc
        go_wp2
        go_roundw
        case rel =>
          have hs := Own.set_ HO2.out hlt (-gi xs j)
          have hvl := (Own.rd HO2.out).len
          refine ⟨j + 1, _, by omega, by go_num, hs.1, fun q hq => ?_, HBR.out.grown hs.2 HBR.out.size (fun k hk => ?_)⟩
          · rw [gi_set' _ _ _ _ (by omega), HV.out q hq]
            by_cases e : j = q
            · subst e
              rw [if_pos rfl, if_pos (by omega), HFX.out]
              simp [bq]
            · rw [if_neg e]
              by_cases e2 : q < j
              · rw [if_pos e2, if_pos (by omega)]
              · rw [if_neg e2, if_neg (by omega)]
          · cases hk
            exact (Ownv.blk_ge HO2.out (by have := (Own.rd HO2.out).le; omega)).1
        case measure => simp [intOf]; omega
    · obtain rfl : j = n := by omega
      have hvs : vs = flp xs bs := ext_gi (by rw [flp_len, HL.out.1]; exact (Own.rd hO).len) fun q hq => by
        have hq' : q < j := by have := (Own.rd hO).len; omega
        rw [hv q hq', if_pos hq']
      subst hvs
      have HO2 := Lib.hid hO
      have HBR := Lib.hid hBr
      clear hO hv hBr
      go_wp2
      go_ret
      exact ⟨A1, c1, rfl, HO2.out, HBR.out⟩
theorem rd_fin {k : IntKind} {w : World} {A : Option Addr} {n c l : Nat} {xs : List Int} (h : Rd k w A n c xs) (hl : l ≤ n) : Rd k w (cut A c l) (n - l) (c - l) (xs.drop l) := by
  have := Rd.cut_ h hl (Nat.le_refl n)
  rwa [List.take_of_length_le (by rw [Rd.len h]; exact Nat.le_refl n)] at this
set_option maxRecDepth 100000 in
set_option maxHeartbeats 2000000 in
theorem word17_any (A : Option Addr) (n c : Nat) (bs : List Bool) (w : World) (h : Rd .u8 w A n c (bs.map ib)) (hn : n ≤ 100000) :
    Calls Try.prog 17 #[.slice A n c] w fun e w' => ∃ A1 c1 A2 c2, e = .returned (.tuple #[.slice A1 (n + 3) c1, .slice A2 (n + 3) c2, .bool true]) ∧ Own .u8 5 w' w.heap.size A1 (n + 3) c1 ((inW bs).map ib) ∧ Rd .u8 w' A2 (n + 3) c2 ((outW bs).map ib) ∧ Below w.heap.size w w' := by
  have HWD := Lib.hid (word_any A n c bs w h hn)
  have hlb : bs.length = n := by have := h.len; simpa using this
  have HL := Lib.hid hlb
  have v1 : IntKind.i64.wrap (2 * (n : Int)) = 2 * (n : Int) := IntWalk.i64_in _ (by omega)
  have v6 : IntKind.i64.wrap (2 * (n : Int) + 6) = 2 * (n : Int) + 6 := IntWalk.i64_in _ (by omega)
  have e6 : (((n + n + 3 + 3 : Nat) : Int) != 2 * (n : Int) + 6) = false := bne_f (by omega)
  have e6' : ((n : Int) + (n : Int) + 3 + 3 != 2 * (n : Int) + 6) = false := bne_f (by omega)
  clear h hlb
  go_enter Try.func17, Try.ntmps17
  go_wp2_with fail
  refine HWD.out.mono ?_
  rintro e w1 ⟨B, d, rfl, hO1, hB1⟩
  have HX := Lib.hid (Own.rd hO1)
  have HB1 := Lib.hid hB1
  have hd : n + n + 3 + 3 ≤ d := (Own.rd hO1).le
  clear hO1 hB1 HWD
  obtain ⟨X, hX⟩ : ∃ X, X = (wordC bs).map ib := ⟨_, rfl⟩
  rw [← hX] at HX
  have HXE := Lib.hid hX
  clear hX
  go_wp2_with fail
  refine (num_any _ _).mono ?_
  rintro e w2 ⟨rfl, rfl⟩
  go_wp2_with fail
  have v2 : IntKind.i64.wrap (2 * (n : Int) + 3) = 2 * (n : Int) + 3 := IntWalk.i64_in _ (by omega)
  have sl1 := fun W => Rdv.slh HX.out el26 .i64 (m := n) (by omega) W
  have sl2 : ∀ W, (Instr.sliceAt 26 (.slice B (n + n + 3 + 3) d) (some (.int .i64 (2 * (n : Int)))) (some (.int .i64 (2 * (n : Int) + 3))) none).run Try.prog W = .ok (.slice (cut B d (2 * n)) 3 (d - 2 * n)) W := fun W => by
    have h := Rdv.sl HX.out el26 .i64 .i64 (l := 2 * n) (m := 2 * n + 3) (by omega) (by omega) W
    rw [show 2 * n + 3 - 2 * n = 3 from by omega, show ((2 * n + 3 : Nat) : Int) = 2 * (n : Int) + 3 from by omega, show ((2 * n : Nat) : Int) = 2 * (n : Int) from by omega] at h
    exact h
  have HR1 : Hid (Rd .u8 w1 B n d (X.take n)) := Lib.hid (Rd.upto HX.out (by omega))
  have HR2 : Hid (Rd .u8 w1 (cut B d (2 * n)) 3 (d - 2 * n) ((X.take (2 * n + 3)).drop (2 * n))) := Lib.hid (by
    have h := Rd.cut_ HX.out (l := 2 * n) (m := 2 * n + 3) (by omega) (by omega)
    rw [show 2 * n + 3 - 2 * n = 3 from by omega] at h
    exact h)
  refine P_start (fun _ => True) 0 14 #[false, false, false, false, false, false, false, false, false, false, false, false, false, false] (by kernel_rfl) (by kernel_rfl) (by kernel_rfl) ?_
  refine P_takeW 1 29 (.slice B (n + n + 3 + 3) d) #[false, true, false, false, false, false, false, false, false, false, false, false, false, false] rfl rfl (by kernel_rfl) (by kernel_rfl) (by kernel_rfl) (by kernel_rfl) (by decide) (fun _ _ _ h => h) (Or.inl ⟨by rfl, fun W hS => by go_simp⟩) trivial ?_
  simp only [List.setIfInBounds_toArray, List.set_cons_zero, List.set_cons_succ]
  refine P_takeW 2 30 (.int .i64 (n : Int)) #[false, true, true, false, false, false, false, false, false, false, false, false, false, false] rfl rfl (by kernel_rfl) (by kernel_rfl) (by kernel_rfl) (by kernel_rfl) (by decide) (fun _ _ _ h => h) (Or.inl ⟨by rfl, fun W hS => by go_simp⟩) trivial ?_
  simp only [List.setIfInBounds_toArray, List.set_cons_zero, List.set_cons_succ]
  refine P_takeW 3 31 (.slice B n d) #[false, true, true, true, false, false, false, false, false, false, false, false, false, false] rfl rfl (by kernel_rfl) (by kernel_rfl) (by kernel_rfl) (by kernel_rfl) (by decide) (fun _ _ _ h => h) (Or.inl ⟨by rfl, fun W hS => by go_simp⟩) trivial ?_
  simp only [List.setIfInBounds_toArray, List.set_cons_zero, List.set_cons_succ]
  refine P_takeW 5 33 (.slice B (n + n + 3 + 3) d) #[false, true, true, true, false, true, false, false, false, false, false, false, false, false] rfl rfl (by kernel_rfl) (by kernel_rfl) (by kernel_rfl) (by kernel_rfl) (by decide) (fun _ _ _ h => h) (Or.inl ⟨by rfl, fun W hS => by go_simp⟩) trivial ?_
  simp only [List.setIfInBounds_toArray, List.set_cons_zero, List.set_cons_succ]
  refine P_takeW 6 34 (.int .i64 (n : Int)) #[false, true, true, true, false, true, true, false, false, false, false, false, false, false] rfl rfl (by kernel_rfl) (by kernel_rfl) (by kernel_rfl) (by kernel_rfl) (by decide) (fun _ _ _ h => h) (Or.inl ⟨by rfl, fun W hS => by go_simp⟩) trivial ?_
  simp only [List.setIfInBounds_toArray, List.set_cons_zero, List.set_cons_succ]
  refine P_takeW 7 35 (.int .i64 (2 * (n : Int))) #[false, true, true, true, false, true, true, true, false, false, false, false, false, false] rfl rfl (by kernel_rfl) (by kernel_rfl) (by kernel_rfl) (by kernel_rfl) (by decide) (fun _ _ _ h => h) (Or.inl ⟨by rfl, fun W hS => by go_simp⟩) trivial ?_
  simp only [List.setIfInBounds_toArray, List.set_cons_zero, List.set_cons_succ]
  refine P_takeW 8 36 (.int .i64 (n : Int)) #[false, true, true, true, false, true, true, true, true, false, false, false, false, false] rfl rfl (by kernel_rfl) (by kernel_rfl) (by kernel_rfl) (by kernel_rfl) (by decide) (fun _ _ _ h => h) (Or.inl ⟨by rfl, fun W hS => by go_simp⟩) trivial ?_
  simp only [List.setIfInBounds_toArray, List.set_cons_zero, List.set_cons_succ]
  refine P_takeW 9 37 (.int .i64 (2 * (n : Int))) #[false, true, true, true, false, true, true, true, true, true, false, false, false, false] rfl rfl (by kernel_rfl) (by kernel_rfl) (by kernel_rfl) (by kernel_rfl) (by decide) (fun _ _ _ h => h) (Or.inl ⟨by rfl, fun W hS => by go_simp⟩) trivial ?_
  simp only [List.setIfInBounds_toArray, List.set_cons_zero, List.set_cons_succ]
  refine P_takeW 10 38 (.int .i64 (2 * (n : Int) + 3)) #[false, true, true, true, false, true, true, true, true, true, true, false, false, false] rfl rfl (by kernel_rfl) (by kernel_rfl) (by kernel_rfl) (by kernel_rfl) (by decide) (fun _ _ _ h => h) (Or.inl ⟨by rfl, fun W hS => by go_simp⟩) trivial ?_
  simp only [List.setIfInBounds_toArray, List.set_cons_zero, List.set_cons_succ]
  refine P_takeW 11 39 (.slice (cut B d (2 * n)) 3 (d - 2 * n)) #[false, true, true, true, false, true, true, true, true, true, true, true, false, false] rfl rfl (by kernel_rfl) (by kernel_rfl) (by kernel_rfl) (by kernel_rfl) (by decide) (fun _ _ _ h => h) (Or.inl ⟨by rfl, fun W hS => by go_simp⟩) trivial ?_
  simp only [List.setIfInBounds_toArray, List.set_cons_zero, List.set_cons_succ]
  refine P_one 0 #[true, true, true, true, false, true, true, true, true, true, true, true, false, false] rfl (by kernel_rfl) (by kernel_rfl) rfl (by kernel_rfl) (fun K hK => ?_)
  go_simp
  refine hK _ _ ?_
  clear hK K
  refine P_one 4 #[true, true, true, true, true, true, true, true, true, true, true, true, false, false] rfl (by kernel_rfl) (by kernel_rfl) rfl (by kernel_rfl) (fun K hK => ?_)
  have hbz : Below w1.heap.size w1 (w1.drew.alloc (.cells #[] 5)) := ((Below.refl _ w1).drew).alloc (Nat.le_refl _) _
  refine wp_appB (w0 := w1) (vs := []) (.tmp 28) (.tmp 31) 26 rfl el26 rfl rfl hbz ?_ (Rdv.below HR1.out hbz) (oneCell_ints .u8 _) (by omega) (by unfold maxLen; omega) ?_
  · exact Ownv.of_heap (cs := #[]) (heap_new' rfl) (Nat.le_refl _) (by show 0 ≤ maxLen; omega)
  intro Ai1 ki1 wi3 h1 h2 _
  rw [Nat.zero_add] at h1 ⊢
  have HAi := Lib.hid h1
  have HBi := Lib.hid h2
  clear h1 h2 hbz
  refine hK _ _ ?_
  clear hK K
  refine P_one 12 #[true, true, true, true, true, true, true, true, true, true, true, true, true, false] rfl (by kernel_rfl) (by kernel_rfl) rfl (by kernel_rfl) (fun K hK => ?_)
  refine wp_appB (w0 := w1) (.tmp 32) (.tmp 39) 26 rfl el26 rfl rfl HBi.out HAi.out (Rdv.below HR2.out HBi.out) (oneCell_ints .u8 _) (by omega) (by unfold maxLen; omega) ?_
  intro Ai ki wi h1 h2 _
  have HOi := Lib.hid h1
  have HCi := Lib.hid h2
  clear h1 h2 HAi HBi
  refine hK _ _ ?_
  clear hK K
  refine P_one 13 #[true, true, true, true, true, true, true, true, true, true, true, true, true, true] rfl (by kernel_rfl) (by kernel_rfl) rfl (by kernel_rfl) (fun K hK => ?_)
  go_simp
  refine hK _ _ ?_
  clear hK K
  refine P_done (by kernel_rfl) ?_ _
  clear sl1 sl2 HR1 HR2 v2
  have HXi := Lib.hid (Rdv.below HX.out HCi.out)
  clear HX
  go_wp2_with fail
  have v2 : IntKind.i64.wrap (2 * (n : Int) + 3) = 2 * (n : Int) + 3 := IntWalk.i64_in _ (by omega)
  have sl1 : ∀ W, (Instr.sliceAt 26 (.slice B (n + n + 3 + 3) d) (some (.int .i64 (n : Int))) (some (.int .i64 (2 * (n : Int)))) none).run Try.prog W = .ok (.slice (cut B d n) n (d - n)) W := fun W => by
    have h := Rdv.sl HXi.out el26 .i64 .i64 (l := n) (m := 2 * n) (by omega) (by omega) W
    rw [show 2 * n - n = n from by omega, show ((2 * n : Nat) : Int) = 2 * (n : Int) from by omega] at h
    exact h
  have sl2 : ∀ W, (Instr.sliceAt 26 (.slice B (n + n + 3 + 3) d) (some (.int .i64 (2 * (n : Int) + 3))) none none).run Try.prog W = .ok (.slice (cut B d (2 * n + 3)) 3 (d - (2 * n + 3))) W := fun W => by
    have h := Rdv.sll HXi.out el26 .i64 (l := 2 * n + 3) (by omega) W
    rw [show n + n + 3 + 3 - (2 * n + 3) = 3 from by omega, show ((2 * n + 3 : Nat) : Int) = 2 * (n : Int) + 3 from by omega] at h
    exact h
  have HR1 : Hid (Rd .u8 wi (cut B d n) n (d - n) ((X.take (2 * n)).drop n)) := Lib.hid (by
    have h := Rd.cut_ HXi.out (l := n) (m := 2 * n) (by omega) (by omega)
    rw [show 2 * n - n = n from by omega] at h
    exact h)
  have HR2 : Hid (Rd .u8 wi (cut B d (2 * n + 3)) 3 (d - (2 * n + 3)) (X.drop (2 * n + 3))) := Lib.hid (by
    have h := rd_fin HXi.out (l := 2 * n + 3) (by omega)
    rw [show n + n + 3 + 3 - (2 * n + 3) = 3 from by omega] at h
    exact h)
  refine P_start (fun _ => True) 0 14 #[false, false, false, false, false, false, false, false, false, false, false, false, false, false] (by kernel_rfl) (by kernel_rfl) (by kernel_rfl) ?_
  refine P_takeW 1 42 (.slice B (n + n + 3 + 3) d) #[false, true, false, false, false, false, false, false, false, false, false, false, false, false] rfl rfl (by kernel_rfl) (by kernel_rfl) (by kernel_rfl) (by kernel_rfl) (by decide) (fun _ _ _ h => h) (Or.inl ⟨by rfl, fun W hS => by go_simp⟩) trivial ?_
  simp only [List.setIfInBounds_toArray, List.set_cons_zero, List.set_cons_succ]
  refine P_takeW 2 43 (.int .i64 (n : Int)) #[false, true, true, false, false, false, false, false, false, false, false, false, false, false] rfl rfl (by kernel_rfl) (by kernel_rfl) (by kernel_rfl) (by kernel_rfl) (by decide) (fun _ _ _ h => h) (Or.inl ⟨by rfl, fun W hS => by go_simp⟩) trivial ?_
  simp only [List.setIfInBounds_toArray, List.set_cons_zero, List.set_cons_succ]
  refine P_takeW 3 44 (.int .i64 (n : Int)) #[false, true, true, true, false, false, false, false, false, false, false, false, false, false] rfl rfl (by kernel_rfl) (by kernel_rfl) (by kernel_rfl) (by kernel_rfl) (by decide) (fun _ _ _ h => h) (Or.inl ⟨by rfl, fun W hS => by go_simp⟩) trivial ?_
  simp only [List.setIfInBounds_toArray, List.set_cons_zero, List.set_cons_succ]
  refine P_takeW 4 45 (.int .i64 (2 * (n : Int))) #[false, true, true, true, true, false, false, false, false, false, false, false, false, false] rfl rfl (by kernel_rfl) (by kernel_rfl) (by kernel_rfl) (by kernel_rfl) (by decide) (fun _ _ _ h => h) (Or.inl ⟨by rfl, fun W hS => by go_simp⟩) trivial ?_
  simp only [List.setIfInBounds_toArray, List.set_cons_zero, List.set_cons_succ]
  refine P_takeW 5 46 (.slice (cut B d n) n (d - n)) #[false, true, true, true, true, true, false, false, false, false, false, false, false, false] rfl rfl (by kernel_rfl) (by kernel_rfl) (by kernel_rfl) (by kernel_rfl) (by decide) (fun _ _ _ h => h) (Or.inl ⟨by rfl, fun W hS => by go_simp⟩) trivial ?_
  simp only [List.setIfInBounds_toArray, List.set_cons_zero, List.set_cons_succ]
  refine P_takeW 7 48 (.slice B (n + n + 3 + 3) d) #[false, true, true, true, true, true, false, true, false, false, false, false, false, false] rfl rfl (by kernel_rfl) (by kernel_rfl) (by kernel_rfl) (by kernel_rfl) (by decide) (fun _ _ _ h => h) (Or.inl ⟨by rfl, fun W hS => by go_simp⟩) trivial ?_
  simp only [List.setIfInBounds_toArray, List.set_cons_zero, List.set_cons_succ]
  refine P_takeW 8 49 (.int .i64 (n : Int)) #[false, true, true, true, true, true, false, true, true, false, false, false, false, false] rfl rfl (by kernel_rfl) (by kernel_rfl) (by kernel_rfl) (by kernel_rfl) (by decide) (fun _ _ _ h => h) (Or.inl ⟨by rfl, fun W hS => by go_simp⟩) trivial ?_
  simp only [List.setIfInBounds_toArray, List.set_cons_zero, List.set_cons_succ]
  refine P_takeW 9 50 (.int .i64 (2 * (n : Int))) #[false, true, true, true, true, true, false, true, true, true, false, false, false, false] rfl rfl (by kernel_rfl) (by kernel_rfl) (by kernel_rfl) (by kernel_rfl) (by decide) (fun _ _ _ h => h) (Or.inl ⟨by rfl, fun W hS => by go_simp⟩) trivial ?_
  simp only [List.setIfInBounds_toArray, List.set_cons_zero, List.set_cons_succ]
  refine P_takeW 10 51 (.int .i64 (2 * (n : Int) + 3)) #[false, true, true, true, true, true, false, true, true, true, true, false, false, false] rfl rfl (by kernel_rfl) (by kernel_rfl) (by kernel_rfl) (by kernel_rfl) (by decide) (fun _ _ _ h => h) (Or.inl ⟨by rfl, fun W hS => by go_simp⟩) trivial ?_
  simp only [List.setIfInBounds_toArray, List.set_cons_zero, List.set_cons_succ]
  refine P_takeW 11 52 (.slice (cut B d (2 * n + 3)) 3 (d - (2 * n + 3))) #[false, true, true, true, true, true, false, true, true, true, true, true, false, false] rfl rfl (by kernel_rfl) (by kernel_rfl) (by kernel_rfl) (by kernel_rfl) (by decide) (fun _ _ _ h => h) (Or.inl ⟨by rfl, fun W hS => by go_simp⟩) trivial ?_
  simp only [List.setIfInBounds_toArray, List.set_cons_zero, List.set_cons_succ]
  refine P_one 0 #[true, true, true, true, true, true, false, true, true, true, true, true, false, false] rfl (by kernel_rfl) (by kernel_rfl) rfl (by kernel_rfl) (fun K hK => ?_)
  go_simp
  refine hK _ _ ?_
  clear hK K
  refine P_one 6 #[true, true, true, true, true, true, true, true, true, true, true, true, false, false] rfl (by kernel_rfl) (by kernel_rfl) rfl (by kernel_rfl) (fun K hK => ?_)
  have hbz : Below wi.heap.size wi (wi.drew.alloc (.cells #[] 5)) := ((Below.refl _ wi).drew).alloc (Nat.le_refl _) _
  refine wp_appB (w0 := wi) (vs := []) (.tmp 41) (.tmp 46) 26 rfl el26 rfl rfl hbz ?_ (Rdv.below HR1.out hbz) (oneCell_ints .u8 _) (by omega) (by unfold maxLen; omega) ?_
  · exact Ownv.of_heap (cs := #[]) (heap_new' rfl) (Nat.le_refl _) (by show 0 ≤ maxLen; omega)
  intro Ao1 ko1 wo3 h1 h2 _
  rw [Nat.zero_add] at h1 ⊢
  have HAo := Lib.hid h1
  have HBo := Lib.hid h2
  clear h1 h2 hbz
  refine hK _ _ ?_
  clear hK K
  refine P_one 12 #[true, true, true, true, true, true, true, true, true, true, true, true, true, false] rfl (by kernel_rfl) (by kernel_rfl) rfl (by kernel_rfl) (fun K hK => ?_)
  refine wp_appB (w0 := wi) (.tmp 47) (.tmp 52) 26 rfl el26 rfl rfl HBo.out HAo.out (Rdv.below HR2.out HBo.out) (oneCell_ints .u8 _) (by omega) (by unfold maxLen; omega) ?_
  intro Ao ko wo h1 h2 _
  have HOo := Lib.hid h1
  have HCo := Lib.hid h2
  clear h1 h2 HAo HBo
  refine hK _ _ ?_
  clear hK K
  refine P_one 13 #[true, true, true, true, true, true, true, true, true, true, true, true, true, true] rfl (by kernel_rfl) (by kernel_rfl) rfl (by kernel_rfl) (fun K hK => ?_)
  go_simp
  refine hK _ _ ?_
  clear hK K
  refine P_done (by kernel_rfl) ?_ _
  clear sl1 sl2 HR1 HR2 v2
  have HIN : Hid (([] ++ (X.take n).map (Value.int .u8)) ++ ((X.take (2 * n + 3)).drop (2 * n)).map (Value.int .u8) = ((inW bs).map ib).map (Value.int .u8)) := Lib.hid (by
    rw [List.nil_append, ← List.map_append, ← wordC_in, HL.out, HXE.out]
    simp only [List.map_append, List.map_take, List.map_drop])
  have HOUT : Hid (([] ++ ((X.take (2 * n)).drop n).map (Value.int .u8)) ++ (X.drop (2 * n + 3)).map (Value.int .u8) = ((outW bs).map ib).map (Value.int .u8)) := Lib.hid (by
    rw [List.nil_append, ← List.map_append, ← wordC_out, HL.out, HXE.out]
    simp only [List.map_append, List.map_take, List.map_drop])
  go_wp2_with fail
  go_ret3
  refine ⟨Ai, ki, Ao, ko, rfl, ?_, ?_, HB1.out.trans ((HCi.out.trans (HCo.out.mono HCi.out.size)).mono HB1.out.size)⟩
  · have h := Ownv.mono (Ownv.below HOi.out HCo.out) HB1.out.size
    rw [HIN.out] at h
    exact h
  · have h := Ownv.rd HOo.out
    rw [HOUT.out] at h
    exact h
end Go.Proofs.Ytmdjclfmhndjnaa
