/-
  Contracts of the reference's turbo Check and of the trellis reference's Word. Condition: a bound on the length.
-/
import Derived.Test.YtkagdiejpcfggaaZa
namespace Go.Proofs.Ytkagdiejpcfggaa
open Go.RowKit
set_option linter.unusedVariables false
theorem rcheck_len (A : Option Addr) (n c : Nat) (w : World) (hg : ¬ goodLen n) (hn : (n : Int) ≤ 9223372036854775807) :
    Calls Try.prog 25 #[.slice A n c] w fun e w' => e = .returned (.int .i64 2) ∧ Below w.heap.size w w' := by
  have hq := fun W => Lib.hid (rbits_bad A n c W hg hn)
  clear hg
  go_enter Try.func25, Try.ntmps25
  go_wp2_with (go_at_call 23; refine (hq _).out.mono ?_; rintro e w1 ⟨rfl, hB⟩)
  go_ret
  exact ⟨rfl, hB⟩
theorem rcheck_bit (A : Option Addr) (n c : Nat) (xs : List Int) (w : World) (h : Rd .u8 w A n c xs) (hg : goodLen n) (hb : ValidB xs = false) :
    Calls Try.prog 25 #[.slice A n c] w fun e w' => e = .returned (.int .i64 3) ∧ Below w.heap.size w w' := by
  obtain ⟨k, -, hk, hv, k0, k1⟩ := goodLen_bd hg
  have hq := fun W h => Lib.hid (rbits_any A n c k xs W h hk hv)
  have HBB := Lib.hid hb
  clear hg hb hk hv
  go_enter Try.func25, Try.ntmps25
  go_wp2_with fail
  refine (hq _ h).out.mono ?_
  rintro e w1 ⟨hB, h1, -⟩
  have he := h1 HBB.out
  subst he
  clear h1
  go_wp2
  go_ret
  exact ⟨rfl, hB⟩
theorem strNe {xs ys : List Int} (hx : ∀ x ∈ xs, 0 ≤ x ∧ x < 256) (hy : ∀ x ∈ ys, 0 ≤ x ∧ x < 256) : ((strOfNums xs).toList != (strOfNums ys).toList) = !decide (xs = ys) := by
  rw [← strEq hx hy]; rfl
theorem wordI_wf (bs : List Bool) : ∀ x ∈ wordI bs, 0 ≤ x ∧ x < 256 := ib_wf _
set_option maxRecDepth 100000 in
theorem rcheck_ok (A : Option Addr) (n c : Nat) (bs : List Bool) (w : World) (h : Rd .u8 w A n c (bs.map ib)) (hg : goodLen n) :
    Calls Try.prog 25 #[.slice A n c] w fun e w' => e = .returned (.int .i64 (chkE n bs)) ∧ Below w.heap.size w w' := by
  obtain ⟨k, -, hk, hv, k0, k1⟩ := goodLen_bd hg
  have e1 : n / 3 - 4 = k := by omega
  have hq := fun W h => Lib.hid (rbits_any A n c k (bs.map ib) W h hk hv)
  have hl : bs.length = n := by have := h.len; simpa using this
  have HV := Lib.hid (valid_ib bs)
  have HH := Lib.hid h
  have e2 : (bs.map ib).take k = (bs.take k).map ib := by rw [List.map_take]
  have HE2 := Lib.hid e2
  have hne := strEq (wordI_wf (bs.take k)) (ib_wf bs)
  have hr : ∀ b : Bool, b = decide (wordI (bs.take k) = bs.map ib) → chkE n bs = if b then 0 else 11 := by
    rintro b rfl
    unfold chkE
    rw [e1]
    by_cases hw : wordI (bs.take k) = bs.map ib
    · simp [hw]
    · simp [hw]
  have HR := Lib.hid hr
  clear hg h e1 e2 hl hk hr
  generalize hdd : decide (wordI (bs.take k) = bs.map ib) = b at *
  have HDD := Lib.hid hdd
  have HNE := Lib.hid hne
  clear hdd hne
  cases b
  all_goals
      go_enter Try.func25, Try.ntmps25
      go_wp2_with fail
      refine (hq _ HH.out).out.mono ?_
      rintro e w1 ⟨hB1, -, h2⟩
      obtain ⟨A1, c1, rfl, hO1⟩ := h2 HV.out
      rw [HE2.out] at hO1
      have HO1 := Lib.hid hO1
      have HB1 := Lib.hid hB1
      clear h2 hO1 hB1 hq
      have hn := HNE.out
      go_wp2_with (go_at_call 12; refine (renc_any A1 k c1 (bs.take k) _ (Own.rd HO1.out) hv).mono ?_; rintro e w2 ⟨A2, c2, rfl, hO2, hB2⟩; have k1' := conv_rd (Own.rd hO2); have k2' := conv_rd (Rdv.below (Rdv.below HH.out HB1.out) hB2); have HB2 := Lib.hid (HB1.out.trans (hB2.mono HB1.out.size)); clear hO2 hB2)
      go_ret
      refine ⟨?_, HB2.out⟩
      rw [HR.out _ rfl]
      rfl
def wordC (bs : List Bool) : List Bool := bs ++ parL s0 bs ++ [tu (fin bs) 0, tu (fin bs) 1, tu (fin bs) 2] ++ [tz (fin bs) 0, tz (fin bs) 1, tz (fin bs) 2]
set_option maxRecDepth 100000 in
set_option maxHeartbeats 600000 in
theorem rword_any (A : Option Addr) (n c : Nat) (bs : List Bool) (w : World) (h : Rd .u8 w A n c (bs.map ib)) (hn : n ≤ 100000) (h1 : 1 ≤ n) :
    Calls Try.prog 26 #[.slice A n c] w fun e w' => ∃ B d, e = .returned (.tuple #[.slice B (n + n + 3 + 3) d, .int .i64 0]) ∧ Own .u8 5 w' w.heap.size B (n + n + 3 + 3) d ((wordC bs).map ib) ∧ Below w.heap.size w w' := by
  have hq := fun W h => Lib.hid (rtencode_any A n c bs W h hn h1)
  have ht := fun W => Lib.hid (rtail_any (fin bs) W)
  unfold tails at ht
  have HH := Lib.hid h
  generalize hs : fin bs = s at *
  have HS := Lib.hid hs
  clear h hs
  go_enter Try.func26, Try.ntmps26
  go_wp2_with fail
  refine (hq _ HH.out).out.mono ?_
  rintro e w1 ⟨A1, c1, rfl, hP1, hB1⟩
  have HP1 := Lib.hid hP1
  have HB1 := Lib.hid hB1
  clear hP1 hB1 hq
  go_wp2_with fail
  refine (ht _).out.mono ?_
  rintro e w2 ⟨rfl, hB2⟩
  have hB3 := bal (bal hB2 (.cells #[.int .u8 (ib (tu s 0)), .int .u8 (ib (tu s 1)), .int .u8 (ib (tu s 2))] 53)) (.cells #[.int .u8 (ib (tz s 0)), .int .u8 (ib (tz s 1)), .int .u8 (ib (tz s 2))] 53)
  obtain ⟨W0, hW0⟩ : ∃ W, W = (w2.alloc (.cells #[.int .u8 (ib (tu s 0)), .int .u8 (ib (tu s 1)), .int .u8 (ib (tu s 2))] 53)).alloc (.cells #[.int .u8 (ib (tz s 0)), .int .u8 (ib (tz s 1)), .int .u8 (ib (tz s 2))] 53) := ⟨_, rfl⟩
  have lit : ∀ (W : World) (x y z : Int), Own .u8 53 (W.alloc (.cells #[.int .u8 x, .int .u8 y, .int .u8 z] 53)) 0 (some ⟨W.heap.size, 0, none⟩) 3 3 [x, y, z] := fun W x y z =>
    Own.of_eq (Ownv.lit W #[.int .u8 x, .int .u8 y, .int .u8 z] 53 rfl (Nat.zero_le _) (by show 3 ≤ maxLen; unfold maxLen; omega)) rfl rfl
  have aX : Own .u8 53 W0 0 (some ⟨w2.heap.size, 0, none⟩) 3 3 [ib (tu s 0), ib (tu s 1), ib (tu s 2)] := by
    rw [hW0]; exact Ownv.alloc (lit w2 _ _ _) _
  have aZ : Own .u8 53 W0 0 (some ⟨w2.heap.size + 1, 0, none⟩) 3 3 [ib (tz s 0), ib (tz s 1), ib (tz s 2)] := by
    have h9 := lit (w2.alloc (.cells #[.int .u8 (ib (tu s 0)), .int .u8 (ib (tu s 1)), .int .u8 (ib (tu s 2))] 53)) (ib (tz s 0)) (ib (tz s 1)) (ib (tz s 2))
    simp only [World.size_alloc] at h9
    rw [hW0]; exact h9
  rw [← hW0] at hB3
  have HBI := Lib.hid (Rdv.below (Rdv.below HH.out HB1.out) hB3)
  have HPA := Lib.hid (Ownv.rd (Ownv.below HP1.out hB3))
  have HBW : Hid (Below w.heap.size w W0) := Lib.hid (HB1.out.trans (hB3.mono HB1.out.size))
  have HAX := Lib.hid aX
  have HAZ := Lib.hid aZ
  have HW0 := Lib.hid hW0
  clear hW0 aX aZ hB3 hB2 lit
  go_wp2_with (first
    | (at_builtin
       rw [← HW0.out]
       refine list_of rfl fun K hK => wp_appB (w0 := W0) (vs := []) (us := ((bs.map ib).map (Value.int .u8))) (.tmp 24) (.tmp 25) 22 rfl el22 rfl rfl (bal (Below.refl _ W0) _) ?_ (Rdv.below HBI.out (bal (Below.refl _ W0) _)) (oneCell_ints .u8 _) (by omega) (by unfold maxLen; omega) ?_
       · exact Ownv.of_heap (cs := #[]) (heap_new' (by rw [HW0.out]; simp)) (by rw [HW0.out]; simp) (by show 0 ≤ maxLen; omega)
       intro A1a c1a w1a hO1a hB1a _
       rw [Nat.zero_add] at hO1a
       refine hK _ _ ?_
       clear hK K)
    | (at_builtin
       refine list_of rfl fun K hK => wp_appB (w0 := W0) (.tmp 26) (.tmp 27) 22 rfl el22 rfl rfl hB1a hO1a (Rdv.below HPA.out hB1a) (oneCell_ints .u8 _) (by omega) (by unfold maxLen; omega) ?_
       intro A2a c2a w2a hO2a hB2a _
       refine hK _ _ ?_
       clear hK K))
  go_region_held3 (fun _ => True) (exact trivial)
    (first
      | (refine step_of rfl ?_
         refine wp_appB (w0 := W0) (vs := [] ++ ((bs.map ib).map (Value.int .u8)) ++ ((parL s0 bs).map ib).map (Value.int .u8)) (us := [ib (tu s 0), ib (tu s 1), ib (tu s 2)].map (Value.int .u8)) (.tmp 29) (.tmp 30) 22 rfl el22 rfl rfl ?_ ?_ ?_ (oneCell_ints .u8 _) ?_ ?_ ?_
         · first | exact Below.refl _ W0 | exact (Below.refl _ W0).drew | exact bal (Below.refl _ W0) _ | exact bal (Below.refl _ W0).drew _ | exact hB1a | exact hB1a.drew | exact hB2a | exact hB2a.drew | exact hB3a | exact hB3a.drew
         · first | exact hO2a | exact hO2a.drew
         · refine Rdv.below (Own.rd HAX.out) ?_
           first | exact Below.refl _ W0 | exact (Below.refl _ W0).drew | exact bal (Below.refl _ W0) _ | exact bal (Below.refl _ W0).drew _ | exact hB1a | exact hB1a.drew | exact hB2a | exact hB2a.drew | exact hB3a | exact hB3a.drew
         · omega
         · unfold maxLen; omega
         intro A3a c3a w3a hO3a hB3a _)
      | (refine step_of rfl ?_
         refine wp_appB (w0 := W0) (vs := [] ++ ((bs.map ib).map (Value.int .u8)) ++ ((parL s0 bs).map ib).map (Value.int .u8) ++ [ib (tu s 0), ib (tu s 1), ib (tu s 2)].map (Value.int .u8)) (us := [ib (tz s 0), ib (tz s 1), ib (tz s 2)].map (Value.int .u8)) (.tmp 31) (.tmp 32) 22 rfl el22 rfl rfl ?_ ?_ ?_ (oneCell_ints .u8 _) ?_ ?_ ?_
         · first | exact Below.refl _ W0 | exact (Below.refl _ W0).drew | exact bal (Below.refl _ W0) _ | exact bal (Below.refl _ W0).drew _ | exact hB1a | exact hB1a.drew | exact hB2a | exact hB2a.drew | exact hB3a | exact hB3a.drew
         · first | exact hO3a | exact hO3a.drew
         · refine Rdv.below (Own.rd HAZ.out) ?_
           first | exact Below.refl _ W0 | exact (Below.refl _ W0).drew | exact bal (Below.refl _ W0) _ | exact bal (Below.refl _ W0).drew _ | exact hB1a | exact hB1a.drew | exact hB2a | exact hB2a.drew | exact hB3a | exact hB3a.drew
         · omega
         · unfold maxLen; omega
         intro A4a c4a w4a hO4a hB4a _))
  all_goals
    go_wp2
    go_ret2
    refine ⟨A4a, c4a, rfl, Own.of_eq (Ownv.mono hO4a HBW.out.size) rfl ?_, HBW.out.trans (hB4a.mono HBW.out.size)⟩
    rw [wordC, HS.out]
    simp
end Go.Proofs.Ytkagdiejpcfggaa
