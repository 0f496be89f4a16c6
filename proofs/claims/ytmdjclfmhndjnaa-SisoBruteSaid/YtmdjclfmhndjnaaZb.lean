/-
  Contracts of the reference's turbo Check and of the trellis reference's Word. Condition: a bound on the length.
-/
import Derived.Test.YtmdjclfmhndjnaaZa
namespace Go.Proofs.Ytmdjclfmhndjnaa
open Go.RowKit
def wordC (bs : List Bool) : List Bool := bs ++ parL s0 bs ++ [tu (fin bs) 0, tu (fin bs) 1, tu (fin bs) 2] ++ [tz (fin bs) 0, tz (fin bs) 1, tz (fin bs) 2]
set_option maxRecDepth 100000 in
set_option maxHeartbeats 600000 in
theorem rword_any (A : Option Addr) (n c : Nat) (bs : List Bool) (w : World) (h : Rd .u8 w A n c (bs.map ib)) (hn : n ≤ 100000) (h1 : 1 ≤ n) :
    Calls Try.prog 44 #[.slice A n c] w fun e w' => ∃ B d, e = .returned (.tuple #[.slice B (n + n + 3 + 3) d, .int .i64 0]) ∧ Own .u8 5 w' w.heap.size B (n + n + 3 + 3) d ((wordC bs).map ib) ∧ Below w.heap.size w w' := by
  have hq := fun W h => Lib.hid (rtencode_any A n c bs W h hn h1)
  have ht := fun W => Lib.hid (rtail_any (fin bs) W)
  unfold tails at ht
  have HH := Lib.hid h
  generalize hs : fin bs = s at *
  have HS := Lib.hid hs
  clear h hs
  go_enter Try.func44, Try.ntmps44
  go_wp2_with fail
  refine (hq _ HH.out).out.mono ?_
  rintro e w1 ⟨A1, c1, rfl, hP1, hB1⟩
  have HP1 := Lib.hid hP1
  have HB1 := Lib.hid hB1
  clear hP1 hB1 hq
  go_wp2_with fail
  refine (ht _).out.mono ?_
  rintro e w2 ⟨rfl, hB2⟩
  have hB3 := bal (bal hB2 (.cells #[.int .u8 (ib (tu s 0)), .int .u8 (ib (tu s 1)), .int .u8 (ib (tu s 2))] 97)) (.cells #[.int .u8 (ib (tz s 0)), .int .u8 (ib (tz s 1)), .int .u8 (ib (tz s 2))] 97)
  obtain ⟨W0, hW0⟩ : ∃ W, W = (w2.alloc (.cells #[.int .u8 (ib (tu s 0)), .int .u8 (ib (tu s 1)), .int .u8 (ib (tu s 2))] 97)).alloc (.cells #[.int .u8 (ib (tz s 0)), .int .u8 (ib (tz s 1)), .int .u8 (ib (tz s 2))] 97) := ⟨_, rfl⟩
  have lit : ∀ (W : World) (x y z : Int), Own .u8 97 (W.alloc (.cells #[.int .u8 x, .int .u8 y, .int .u8 z] 97)) 0 (some ⟨W.heap.size, 0, none⟩) 3 3 [x, y, z] := fun W x y z =>
    Own.of_eq (Ownv.lit W #[.int .u8 x, .int .u8 y, .int .u8 z] 97 rfl (Nat.zero_le _) (by show 3 ≤ maxLen; unfold maxLen; omega)) rfl rfl
  have aX : Own .u8 97 W0 0 (some ⟨w2.heap.size, 0, none⟩) 3 3 [ib (tu s 0), ib (tu s 1), ib (tu s 2)] := by
    rw [hW0]; exact Ownv.alloc (lit w2 _ _ _) _
  have aZ : Own .u8 97 W0 0 (some ⟨w2.heap.size + 1, 0, none⟩) 3 3 [ib (tz s 0), ib (tz s 1), ib (tz s 2)] := by
    have h9 := lit (w2.alloc (.cells #[.int .u8 (ib (tu s 0)), .int .u8 (ib (tu s 1)), .int .u8 (ib (tu s 2))] 97)) (ib (tz s 0)) (ib (tz s 1)) (ib (tz s 2))
    simp only [World.size_alloc] at h9
    rw [hW0]; exact h9
  rw [← hW0] at hB3
  have HBI := Lib.hid (Rdv.below (Rdv.below HH.out HB1.out) hB3)
  have HPA := Lib.hid (Ownv.rd (Ownv.below HP1.out hB3))
  have HBW : Hid (Below w.heap.size w W0) := Lib.hid (HB1.out.trans (hB3.mono HB1.out.size))
  have HAX := Lib.hid aX
  have HAZ := Lib.hid aZ
  have HW0 := Lib.hid hW0
  clear hW0 aX aZ hB3 hB2 lit
  go_wp2_with (first
    | (at_builtin
       rw [← HW0.out]
       refine list_of rfl fun K hK => wp_appB (w0 := W0) (vs := []) (us := ((bs.map ib).map (Value.int .u8))) (.tmp 24) (.tmp 25) 26 rfl el26 rfl rfl (bal (Below.refl _ W0) _) ?_ (Rdv.below HBI.out (bal (Below.refl _ W0) _)) (oneCell_ints .u8 _) (by omega) (by unfold maxLen; omega) ?_
       · exact Ownv.of_heap (cs := #[]) (heap_new' (by rw [HW0.out]; simp)) (by rw [HW0.out]; simp) (by show 0 ≤ maxLen; omega)
       intro A1a c1a w1a hO1a hB1a _
       rw [Nat.zero_add] at hO1a
       refine hK _ _ ?_
       clear hK K)
    | (at_builtin
       refine list_of rfl fun K hK => wp_appB (w0 := W0) (.tmp 26) (.tmp 27) 26 rfl el26 rfl rfl hB1a hO1a (Rdv.below HPA.out hB1a) (oneCell_ints .u8 _) (by omega) (by unfold maxLen; omega) ?_
       intro A2a c2a w2a hO2a hB2a _
       refine hK _ _ ?_
       clear hK K))
  go_region_held3 (fun _ => True) (exact trivial)
    (first
      | (refine step_of rfl ?_
         refine wp_appB (w0 := W0) (vs := [] ++ ((bs.map ib).map (Value.int .u8)) ++ ((parL s0 bs).map ib).map (Value.int .u8)) (us := [ib (tu s 0), ib (tu s 1), ib (tu s 2)].map (Value.int .u8)) (.tmp 29) (.tmp 30) 26 rfl el26 rfl rfl ?_ ?_ ?_ (oneCell_ints .u8 _) ?_ ?_ ?_
         · first | exact Below.refl _ W0 | exact (Below.refl _ W0).drew | exact bal (Below.refl _ W0) _ | exact bal (Below.refl _ W0).drew _ | exact hB1a | exact hB1a.drew | exact hB2a | exact hB2a.drew | exact hB3a | exact hB3a.drew
         · first | exact hO2a | exact hO2a.drew
         · refine Rdv.below (Own.rd HAX.out) ?_
           first | exact Below.refl _ W0 | exact (Below.refl _ W0).drew | exact bal (Below.refl _ W0) _ | exact bal (Below.refl _ W0).drew _ | exact hB1a | exact hB1a.drew | exact hB2a | exact hB2a.drew | exact hB3a | exact hB3a.drew
         · omega
         · unfold maxLen; omega
         intro A3a c3a w3a hO3a hB3a _)
      | (refine step_of rfl ?_
         refine wp_appB (w0 := W0) (vs := [] ++ ((bs.map ib).map (Value.int .u8)) ++ ((parL s0 bs).map ib).map (Value.int .u8) ++ [ib (tu s 0), ib (tu s 1), ib (tu s 2)].map (Value.int .u8)) (us := [ib (tz s 0), ib (tz s 1), ib (tz s 2)].map (Value.int .u8)) (.tmp 31) (.tmp 32) 26 rfl el26 rfl rfl ?_ ?_ ?_ (oneCell_ints .u8 _) ?_ ?_ ?_
         · first | exact Below.refl _ W0 | exact (Below.refl _ W0).drew | exact bal (Below.refl _ W0) _ | exact bal (Below.refl _ W0).drew _ | exact hB1a | exact hB1a.drew | exact hB2a | exact hB2a.drew | exact hB3a | exact hB3a.drew
         · first | exact hO3a | exact hO3a.drew
         · refine Rdv.below (Own.rd HAZ.out) ?_
           first | exact Below.refl _ W0 | exact (Below.refl _ W0).drew | exact bal (Below.refl _ W0) _ | exact bal (Below.refl _ W0).drew _ | exact hB1a | exact hB1a.drew | exact hB2a | exact hB2a.drew | exact hB3a | exact hB3a.drew
         · omega
         · unfold maxLen; omega
         intro A4a c4a w4a hO4a hB4a _))
  all_goals
    go_wp2
    go_ret2
    refine ⟨A4a, c4a, rfl, Own.of_eq (Ownv.mono hO4a HBW.out.size) rfl ?_, HBW.out.trans (hB4a.mono HBW.out.size)⟩
    rw [wordC, HS.out]
    simp
end Go.Proofs.Ytmdjclfmhndjnaa
