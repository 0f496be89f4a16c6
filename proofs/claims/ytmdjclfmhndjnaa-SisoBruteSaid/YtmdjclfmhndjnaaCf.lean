/-
  Contracts of own and of the reference's Wrong. Condition: lists that lie in memory.
-/
import Derived.Test.YtmdjclfmhndjnaaCe
namespace Go.Proofs.Ytmdjclfmhndjnaa
open Go.RowKit
set_option linter.unusedVariables false
theorem own_any (A : Option Addr) (n c : Nat) (xs : List Int) (w : World) (h : Rd .i64 w A n c xs) (hn : n ≤ 1000000) :
    Calls Try.prog 11 #[.slice A n c] w fun e w' => ∃ A' c', e = .returned (.slice A' n c') ∧ Own .i64 3 w' w.heap.size A' n c' xs ∧ Below w.heap.size w w' := by
  have H := Lib.hid h
  clear h
  go_enter Try.func11, Try.ntmps11
  go_wp2_with (at_builtin
               refine list_of rfl fun K hK => wp_appB (w0 := w) (vs := []) (.tmp 3) (.tmp 4) 22 rfl el22 rfl rfl (bal (Below.refl _ w) _) ?_ (Rdv.below H.out (bal (Below.refl _ w) _)) (oneCell_ints .i64 _) (by omega) (by unfold maxLen; omega) ?_
               · exact Ownv.of_heap (cs := #[]) (heap_new' rfl) (Nat.le_refl _) (by show 0 ≤ maxLen; omega)
               intro A1 c1 w1 h1 h2 _
               rw [Nat.zero_add] at h1 ⊢
               refine hK _ _ ?_
               clear hK K
               have H1 := Lib.hid h1
               have H2 := Lib.hid h2
               clear h1 h2)
  go_ret
  exact ⟨A1, c1, rfl, by simpa [Own] using H1.out, H2.out⟩
theorem softB_app (xs ys : List Int) : SoftB (xs ++ ys) = (SoftB xs && SoftB ys) := by simp [SoftB, List.all_append]
set_option maxRecDepth 100000 in
theorem wrong_len (S P A : Option Addr) (cs cp ca : Nat) (o : Ob) (w : World) (h : In3 w o S P A cs cp ca) (hl : ¬ o.lens) :
    Calls Try.prog 20 #[.slice S o.s.length cs, .slice P o.p.length cp, .slice A o.a.length ca] w fun e w' => e = .returned (.int .i64 2) ∧ w = w' := by
  have b1 := (Rdv.bd h.s).1
  have b2 := (Rdv.bd h.p).1
  have b3 := (Rdv.bd h.a).1
  unfold Ob.lens at hl
  clear h
  rcases (by omega : o.a.length < 1 ∨ 6144 < o.a.length ∨ (1 ≤ o.a.length ∧ o.a.length ≤ 6144 ∧ o.s.length ≠ o.a.length + 3) ∨ (1 ≤ o.a.length ∧ o.a.length ≤ 6144 ∧ o.s.length = o.a.length + 3 ∧ o.p.length ≠ o.s.length)) with h1 | h1 | ⟨h1, h2, h3⟩ | ⟨h1, h2, h3, h4⟩ <;> clear hl
  case' inr.inr.inl => have e3 := bne_len_t h3; clear h3
  case' inr.inr.inr => have e3 := bne_len_f h3; have e4 : ((o.p.length : Int) != (o.s.length : Int)) = true := bne_t (by omega); clear h3 h4
  all_goals
    go_enter Try.func20, Try.ntmps20
    go_wp2
    go_ret
    exact ⟨rfl, rfl⟩
def WrPost (o : Ob) (w : World) (e : Ending) (w' : World) : Prop := e = .returned (.int .i64 (if o.soft = true then 0 else 6)) ∧ Below w.heap.size w w'
set_option maxRecDepth 100000 in
set_option maxHeartbeats 1000000 in
theorem wrong_soft (S P A : Option Addr) (cs cp ca : Nat) (o : Ob) (w : World) (h : In3 w o S P A cs cp ca) (hl : o.lens) :
    Calls Try.prog 20 #[.slice S o.s.length cs, .slice P o.p.length cp, .slice A o.a.length ca] w (WrPost o w) := by
  obtain ⟨l1, l2, l3, l4⟩ := hl
  have H := Lib.hid h
  have e3 := bne_len_f l3
  have e4 : ((o.p.length : Int) != (o.s.length : Int)) = false := bne_f (by omega)
  have L3 := Lib.hid (show o.s.length = o.a.length + 3 ∧ o.p.length = o.a.length + 3 from ⟨l3, l4⟩)
  have hs : o.s.length ≤ 6147 := by omega
  have hp : o.p.length ≤ 6147 := by omega
  have HSO := Lib.hid (show SoftB (o.s ++ o.p ++ o.a) = o.soft from by rw [softB_app, softB_app, Bool.and_assoc]; rfl)
  clear h l3 l4
  go_enter Try.func20, Try.ntmps20
  go_wp2_with (first
    | (at_builtin
       refine list_of rfl fun K hK => wp_appB (w0 := w) (vs := []) (.tmp 32) (.tmp 33) 22 rfl el22 rfl rfl (bal (Below.refl _ w) _) ?_ (Rdv.below H.out.s (bal (Below.refl _ w) _)) (oneCell_ints .i64 _) (by omega) (by unfold maxLen; omega) ?_
       · exact Ownv.of_heap (cs := #[]) (heap_new' rfl) (Nat.le_refl _) (by show 0 ≤ maxLen; omega)
       intro A1 c1 w1 h1 h2 _
       rw [Nat.zero_add] at h1 ⊢
       refine hK _ _ ?_
       clear hK K
       have H1 := Lib.hid h1
       have H2 := Lib.hid h2
       clear h1 h2)
    | (at_builtin
       refine list_of rfl fun K hK => wp_appB (w0 := w) (.tmp 34) (.tmp 35) 22 rfl el22 rfl rfl H2.out H1.out (Rdv.below H.out.p H2.out) (oneCell_ints .i64 _) (by omega) (by unfold maxLen; omega) ?_
       intro A2 c2 w2 h3 h4 _
       refine hK _ _ ?_
       clear hK K
       have H3 := Lib.hid h3
       have H4 := Lib.hid h4
       clear h3 h4)
    | (at_builtin
       refine list_of rfl fun K hK => wp_appB (w0 := w) (.tmp 36) (.tmp 37) 22 rfl el22 rfl rfl H4.out H3.out (Rdv.below H.out.a H4.out) (oneCell_ints .i64 _) (by omega) (by unfold maxLen; omega) ?_
       intro A3 c3 w3 h5 h6 _
       refine hK _ _ ?_
       clear hK K
       have H5 := Lib.hid h5
       have H6 := Lib.hid h6
       clear h5 h6))
  obtain ⟨xs, hxs⟩ : ∃ xs, xs = o.s ++ o.p ++ o.a := ⟨_, rfl⟩
  have hO : Own .i64 3 w3 w.heap.size A3 (o.s.length + o.p.length + o.a.length) c3 xs := by rw [hxs]; have := H5.out; simpa [Own] using this
  have hxl : xs.length = o.s.length + o.p.length + o.a.length := by rw [hxs]; simp; omega
  have HX := Lib.hid hxs
  have HO := Lib.hid hO
  have HXL := Lib.hid hxl
  clear hxs hO hxl H5
  have hN : o.s.length + o.p.length + o.a.length ≤ 20000 := by omega
  generalize o.s.length + o.p.length + o.a.length = N at *
  clear hs hp l1 l2
  go_loop [8] (fun i => ∃ j : Nat, j ≤ N ∧ i = .int .i64 j ∧ ∀ q, q < j → (-127 ≤ gi xs q ∧ gi xs q ≤ 127)) (fun i => N - (intOf i).toNat)
  case atStart => exact ⟨0, by omega, rfl, fun q hq => by omega⟩
  case round =>
    obtain ⟨j, hj, rfl, hq⟩ := hrel
    have HQ := Lib.hid hq
    clear hq
    by_cases hlt : j < N
    · have hix := fun W => Rdv.ix HO.out.rd el22 hlt .i64 W
      have hc := Rd.cell HO.out.rd hlt
      by_cases g1 : gi xs j < -127
      · have hbad := Lib.hid (softB_f (xs := xs) (j := j) (by rw [HXL.out]; exact hlt) (by omega))
        go_wp2
        go_ret
        exact ⟨ret_int (by rw [← HSO.out, ← HX.out, hbad.out]; rfl), H6.out⟩
      · by_cases g2 : 127 < gi xs j
        · have hbad := Lib.hid (softB_f (xs := xs) (j := j) (by rw [HXL.out]; exact hlt) (by omega))
          go_wp2
          go_ret
          exact ⟨ret_int (by rw [← HSO.out, ← HX.out, hbad.out]; rfl), H6.out⟩
        · go_wp2
          go_round
          case rel => exact ⟨j + 1, by omega, by go_num, lt_succ_cases HQ.out ⟨by omega, by omega⟩⟩
          case measure => simp [intOf]; omega
    · obtain rfl : j = N := by omega
      have hgood := Lib.hid (softB_t (xs := xs) (fun q hq => HQ.out q (by rw [HXL.out] at hq; exact hq)))
      go_wp2
      go_ret
      exact ⟨ret_int (by rw [← HSO.out, ← HX.out, hgood.out]; rfl), H6.out⟩
/-- the errno of an observation, of the reference -/
theorem wrong_any (S P A : Option Addr) (cs cp ca : Nat) (o : Ob) (w : World) (h : In3 w o S P A cs cp ca) :
    Calls Try.prog 20 #[.slice S o.s.length cs, .slice P o.p.length cp, .slice A o.a.length ca] w fun e w' => e = .returned (.int .i64 o.err) ∧ Below w.heap.size w w' := by
  unfold Ob.err
  by_cases hl : o.lens
  · rw [if_pos hl]; exact wrong_soft S P A cs cp ca o w h hl
  · rw [if_neg hl]
    refine (wrong_len S P A cs cp ca o w h hl).mono ?_
    rintro e w' ⟨rfl, rfl⟩
    exact ⟨rfl, Below.refl _ w⟩
end Go.Proofs.Ytmdjclfmhndjnaa
