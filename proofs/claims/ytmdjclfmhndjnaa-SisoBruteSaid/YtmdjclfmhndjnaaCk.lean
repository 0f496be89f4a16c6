/-
  Contracts of trellis.joined and trellis.Word. Condition: bits that lie in memory.
-/
import Derived.Test.YtmdjclfmhndjnaaCj
namespace Go.Proofs.Ytmdjclfmhndjnaa
open Go.RowKit
set_option linter.unusedVariables false
theorem Rdv.slhm {P : Program} {w : World} {A : Option Addr} {n c : Nat} {vs : List Value} (h : Rdv w A n c vs) {t e : TypeId} {z : Value} {bytes : Nat} (E : El P t e z bytes) (kh km : IntKind) {m : Nat} (hm : m ≤ c) (W : World) :
    (Instr.sliceAt t (.slice A n c) none (some (.int kh (m : Int))) (some (.int km (m : Int)))).run P W = .ok (.slice A m m) W := by
  have e1 : P.underlying t = some (.slice (P.elem t)) := by rw [E.u]; simp [Program.elem, E.u]
  have e2 : P.elem t = e := by simp [Program.elem, E.u]
  rw [run_sliceAt_slice W t _ _ _ _ e1, run_slice_hm W t A n c e1 kh km m m (by omega) (by omega) (by omega), e2, E.s]
  simp only [Result.andThen_ok, Int.toNat_natCast, sliced, Nat.zero_mul, Nat.sub_zero]
  congr 2
  split
  · rfl
  · cases A <;> simp [Addr.add]
theorem Rdv.capn {w : World} {A : Option Addr} {n c : Nat} {vs : List Value} (h : Rdv w A n c vs) : Rdv w A n n vs := by
  have hle := h.le
  exact ⟨h.len, Nat.le_refl _, Nat.le_trans hle h.cm, fun e => by have := h.nil e; omega, fun hn => h.spot (by omega), fun hn => h.lt (by omega), h.at_⟩
set_option maxHeartbeats 800000 in
theorem joined_any (A : Option Addr) (n c : Nat) (L : List Sv) (w : World) (h : Rdv w A n c (L.map Sv.v)) (hs : ∀ s ∈ L, Rd .u8 w s.A s.n s.c s.xs) (ht : tot L n ≤ 1000000) :
    Calls Try.prog 55 #[.slice A n c] w fun e w' => ∃ A' c', e = .returned (.slice A' (tot L n) c') ∧ Own .u8 5 w' w.heap.size A' (tot L n) c' (flat L n) ∧ Below w.heap.size w w' := by
  have hbd := h.bd.1
  have hl := h.len
  rw [List.length_map] at hl
  have HL := Lib.hid hl; clear hl
  have hget : ∀ j, j < n → ∃ s, L[j]? = some s ∧ w.cell? (adr A j) = some (.slice s.A s.n s.c) ∧ Rd .u8 w s.A s.n s.c s.xs := fun j hj => by
    have hj' : j < L.length := by rw [HL.out]; exact hj
    exact ⟨L[j], List.getElem?_eq_getElem hj', h.at_ j _ (by simp [hj', Sv.v]), hs _ (List.getElem_mem hj')⟩
  have HG := Lib.hid hget; clear hget hs
  go_enter Try.func55, Try.ntmps55
  go_wp2
  go_loopw [2, 7] (fun out i wr => Cc2 w w.heap.size L n out i wr) (fun _ i _ => n - (intOf i).toNat)
  case atStart => exact ⟨0, none, 0, by omega, rfl, rfl, Own.nilv _ _ _ _, Below.refl _ _⟩
  case round =>
    obtain ⟨q, A2, c2, hq, rfl, rfl, hO2, hB2⟩ := hrel
    by_cases hlq : q < n
    · obtain ⟨s, hs, hc, hR⟩ := HG.out q hlq
      have hh2 := Rdv.below h hB2
      have hix := fun W => Rdv.ix hh2 el100 hlq .i64 W
      have hc2 := (hB2.cell (p := adr A q) (World.block_lt_of_cell? w _ hc)).trans hc
      have hR2 := Rdv.capn (Rdv.below hR hB2)
      have hsl := fun W => Rdv.slhm hR el26 .i64 .i64 (Rdv.le hR) W
      have hts := tot_succ hs
      have htl := tot_le (L := L) (show q + 1 ≤ n by omega)
      have HTS := Lib.hid hts
      have HS := Lib.hid hs
      have hb3 : tot L q + s.n ≤ 1000000 := by omega
      have hsz := hB2.size
      clear hts hs hc
      go_wp2_with (at_builtin; go_loud (refine list_of rfl fun K hK => wp_app _ _ 26 rfl el26 rfl rfl hO2 hR2 (oneCell_ints .u8 _) (by omega) (by unfold maxLen; omega) hsz ?_); intro A' c' w' hO' hg; refine hK _ _ ?_; clear hK K)
      go_roundw
      case rel => exact ⟨q + 1, A', c', by omega, by go_num, by rw [HTS.out], Own.of_eq hO' HTS.out.symm (by rw [flat_succ HS.out, List.map_append]), hB2.grown hg hsz (fun k hk => Ownv.ob' hO2 hk)⟩
      case measure => simp [intOf]; omega
    · obtain rfl : q = n := by omega
      go_wp2
      go_ret
      exact ⟨A2, c2, rfl, hO2, hB2⟩
theorem word_bad (A : Option Addr) (n c : Nat) (xs : List Int) (w : World) (h : Rd .u8 w A n c xs) (hv : ValidB xs = false) :
    Calls Try.prog 38 #[.slice A n c] w fun e w' => e = .returned (.tuple #[.slice none 0 0, .int .i64 3]) ∧ w = w' := by
  have HT := Lib.hid (tencode_bad A n c xs w h hv)
  clear h hv
  go_enter Try.func38, Try.ntmps38
  go_wp2_with fail
  refine HT.out.mono ?_
  rintro e w1 ⟨rfl, rfl⟩
  go_wp2
  go_ret2
  exact ⟨rfl, rfl⟩
theorem info97 : (Try.prog.info? 97).map (·.size) = some 3 := by kernel_rfl
theorem Blk.rdv {W : World} {b : Nat} {t : TypeId} {cs : List Value} (h : Blk W b t cs) (hm : cs.length ≤ maxLen) : Rdv W (some ⟨b, 0, none⟩) cs.length cs.length cs :=
  ⟨rfl, Nat.le_refl _, hm, nofun, by rintro _ a ⟨⟩; rfl, by rintro _ a ⟨⟩; exact h.lt, fun j v hj => by rw [adr_some, Nat.zero_add]; exact h.cell hj⟩
def u3 (f : Nat → Bool) : List Int := [ib (f 0), ib (f 1), ib (f 2)]
set_option maxRecDepth 100000 in
set_option maxHeartbeats 1000000 in
theorem word_any (A : Option Addr) (n c : Nat) (bs : List Bool) (w : World) (h : Rd .u8 w A n c (bs.map ib)) (hn : n ≤ 100000) :
    Calls Try.prog 38 #[.slice A n c] w fun e w' => ∃ B d, e = .returned (.tuple #[.slice B (n + n + 3 + 3) d, .int .i64 0]) ∧ Own .u8 5 w' w.heap.size B (n + n + 3 + 3) d ((wordC bs).map ib) ∧ Below w.heap.size w w' := by
  have HT := Lib.hid (tencode_any A n c bs w h hn)
  have H := Lib.hid h
  clear h
  go_enter Try.func38, Try.ntmps38
  go_wp2_with fail
  refine HT.out.mono ?_
  rintro e w1 ⟨A1, c1, rfl, hO1, hB1⟩
  have HO1 := Lib.hid hO1
  have HB1 := Lib.hid hB1
  have HTA := Lib.hid (fun W => tail_any (bs.foldl stp s0).1 (bs.foldl stp s0).2.1 (bs.foldl stp s0).2.2 W)
  clear hO1 hB1
  go_wp2_with fail
  refine (HTA.out _).mono ?_
  rintro e w2 ⟨rfl, hB2⟩
  have HB2 := Lib.hid hB2
  clear hB2 HTA
  have b7 : Blk (w2.alloc (.cells #[.int .u8 0, .int .u8 0, .int .u8 0] 97)) w2.heap.size 97 [.int .u8 0, .int .u8 0, .int .u8 0] := Blk.new w2 [.int .u8 0, .int .u8 0, .int .u8 0] 97 rfl
  have b8 : Blk ((w2.alloc (.cells #[.int .u8 0, .int .u8 0, .int .u8 0] 97)).alloc (.cells #[.int .u8 0, .int .u8 0, .int .u8 0] 97)) (w2.heap.size + 1) 97 [.int .u8 0, .int .u8 0, .int .u8 0] := Blk.new _ [.int .u8 0, .int .u8 0, .int .u8 0] 97 (by simp)
  have b7' := b7.alloc (.cells #[.int .u8 0, .int .u8 0, .int .u8 0] 97)
  have hB : Below w2.heap.size w2 ((w2.alloc (.cells #[.int .u8 0, .int .u8 0, .int .u8 0] 97)).alloc (.cells #[.int .u8 0, .int .u8 0, .int .u8 0] 97)) := ((Below.refl _ w2).alloc (Nat.le_refl _) _).alloc (by simp) _
  have HBB := Lib.hid hB
  have HSW := Lib.hid (show tlU (bs.foldl stp s0).1 (bs.foldl stp s0).2.1 (bs.foldl stp s0).2.2 = tu (fin bs) ∧ tlZ (bs.foldl stp s0).1 (bs.foldl stp s0).2.1 (bs.foldl stp s0).2.2 = tz (fin bs) from ⟨rfl, rfl⟩)
  clear b7 hB
  rw [HSW.out.1, HSW.out.2]
  go_wp2_with (first
    | (refine strow (cs := (u3 (tu (fin bs))).map (Value.int .u8)) rfl 97 (.tmp 7) (.tmp 22) rfl rfl rfl b7' rfl (by rw [info97]; rfl) (oneCell_ints .u8 _) ?_; intro W3 h1 h2; have H31 := Lib.hid h1; have H32 := Lib.hid h2; have b8' := Blk.grown b8 h2 (by omega); clear h1 h2 b7' b8)
    | (refine strow (cs := (u3 (tz (fin bs))).map (Value.int .u8)) rfl 97 (.tmp 8) (.tmp 23) rfl rfl rfl b8' rfl (by rw [info97]; rfl) (oneCell_ints .u8 _) ?_; intro W4 h3 h4; have H41 := Lib.hid h3; have H42 := Lib.hid h4; clear h3 h4 b8'))
  have hb4 : Below w2.heap.size w2 W4 := (HBB.out.grown H32.out (by simp; omega) (fun k hk => by cases hk; exact Nat.le_refl _)).grown H42.out (by have := H32.out.size; simp at this; omega) (fun k hk => by cases hk; omega)
  have HB4 := Lib.hid (HB1.out.trans ((HB2.out.trans (hb4.mono HB2.out.size)).mono HB1.out.size))
  have HU := Lib.hid ((H31.out.grown H42.out (by omega)).rdv (by show 3 ≤ maxLen; unfold maxLen; omega))
  have HZ := Lib.hid (H41.out.rdv (by show 3 ≤ maxLen; unfold maxLen; omega))
  have HX := Lib.hid (Rdv.below H.out HB4.out)
  have HP := Lib.hid (Ownv.rd (Ownv.below HO1.out (HB2.out.trans (hb4.mono HB2.out.size))))
  generalize w2.heap.size = g7 at *
  clear hb4
  refine P_start (fun _ => True) 4 8 #[false, false, false, false, false, false, false, false] (by kernel_rfl) (by kernel_rfl) (by kernel_rfl) ?_
  refine P_takeW 0 25 (.slice A n c) #[true, false, false, false, false, false, false, false] rfl rfl (by kernel_rfl) (by kernel_rfl) (by kernel_rfl) (by kernel_rfl) (by decide) (fun _ _ _ h => h) (Or.inl ⟨by rfl, fun W hS => by go_simp⟩) trivial ?_
  simp only [List.setIfInBounds_toArray, List.set_cons_zero, List.set_cons_succ]
  refine P_takeW 1 26 (.slice A1 n c1) #[true, true, false, false, false, false, false, false] rfl rfl (by kernel_rfl) (by kernel_rfl) (by kernel_rfl) (by kernel_rfl) (by decide) (fun _ _ _ h => h) (Or.inl ⟨by rfl, fun W hS => by go_simp⟩) trivial ?_
  simp only [List.setIfInBounds_toArray, List.set_cons_zero, List.set_cons_succ]
  refine P_takeW 2 27 (.slice (some ⟨g7, 0, none⟩) 3 3) #[true, true, true, false, false, false, false, false] rfl rfl (by kernel_rfl) (by kernel_rfl) (by kernel_rfl) (by kernel_rfl) (by decide) (fun _ _ _ h => h) (Or.inl ⟨by rfl, fun W hS => by go_simp⟩) trivial ?_
  simp only [List.setIfInBounds_toArray, List.set_cons_zero, List.set_cons_succ]
  refine P_takeW 3 28 (.slice (some ⟨g7 + 1, 0, none⟩) 3 3) #[true, true, true, true, false, false, false, false] rfl rfl (by kernel_rfl) (by kernel_rfl) (by kernel_rfl) (by kernel_rfl) (by decide) (fun _ _ _ h => h) (Or.inl ⟨by rfl, fun W hS => by go_simp⟩) trivial ?_
  simp only [List.setIfInBounds_toArray, List.set_cons_zero, List.set_cons_succ]
  refine P_one 4 #[true, true, true, true, true, false, false, false] rfl (by kernel_rfl) (by kernel_rfl) rfl (by kernel_rfl) (fun K hK => ?_)
  go_simp
  have hrow : Rdv (W4.drew.alloc (.cells #[.slice A n c, .slice A1 n c1, .slice (some ⟨g7, 0, none⟩) 3 3, .slice (some ⟨g7 + 1, 0, none⟩) 3 3] 26)) (some ⟨W4.drew.heap.size, 0, none⟩) 4 4 (([⟨A, n, c, bs.map ib⟩, ⟨A1, n, c1, (parL s0 bs).map ib⟩, ⟨some ⟨g7, 0, none⟩, 3, 3, u3 (tu (fin bs))⟩, ⟨some ⟨g7 + 1, 0, none⟩, 3, 3, u3 (tz (fin bs))⟩] : List Sv).map Sv.v) :=
    (Ownv.lit W4.drew #[.slice A n c, .slice A1 n c1, .slice (some ⟨g7, 0, none⟩) 3 3, .slice (some ⟨g7 + 1, 0, none⟩) 3 3] 26 rfl (Nat.le_refl _) (by show 4 ≤ maxLen; unfold maxLen; omega)).rd
  have hbw : Below W4.heap.size W4 (W4.drew.alloc (.cells #[.slice A n c, .slice A1 n c1, .slice (some ⟨g7, 0, none⟩) 3 3, .slice (some ⟨g7 + 1, 0, none⟩) 3 3] 26)) := (Below.refl _ W4).drew.alloc (Nat.le_refl _) _
  have hall : ∀ s ∈ ([⟨A, n, c, bs.map ib⟩, ⟨A1, n, c1, (parL s0 bs).map ib⟩, ⟨some ⟨g7, 0, none⟩, 3, 3, u3 (tu (fin bs))⟩, ⟨some ⟨g7 + 1, 0, none⟩, 3, 3, u3 (tz (fin bs))⟩] : List Sv), Rd .u8 (W4.drew.alloc (.cells #[.slice A n c, .slice A1 n c1, .slice (some ⟨g7, 0, none⟩) 3 3, .slice (some ⟨g7 + 1, 0, none⟩) 3 3] 26)) s.A s.n s.c s.xs := by
    intro s hs
    simp only [List.mem_cons, List.not_mem_nil, or_false] at hs
    rcases hs with rfl | rfl | rfl | rfl
    · exact Rdv.below HX.out hbw
    · exact Rdv.below HP.out hbw
    · exact Rdv.below HU.out hbw
    · exact Rdv.below HZ.out hbw
  have HJ := Lib.hid (joined_any _ 4 4 _ _ hrow hall (by simp [tot]; omega))
  have HBW := Lib.hid (HB4.out.trans (hbw.mono HB4.out.size))
  clear hrow hall hbw
  refine hK _ _ ?_
  clear hK K
  refine P_one 5 #[true, true, true, true, true, true, false, false] rfl (by kernel_rfl) (by kernel_rfl) rfl (by kernel_rfl) (fun K hK => ?_)
  go_simp
  refine HJ.out.mono ?_
  rintro e w6 ⟨B, d, rfl, hF1, hF2⟩
  have ht : tot ([⟨A, n, c, bs.map ib⟩, ⟨A1, n, c1, (parL s0 bs).map ib⟩, ⟨some ⟨g7, 0, none⟩, 3, 3, u3 (tu (fin bs))⟩, ⟨some ⟨g7 + 1, 0, none⟩, 3, 3, u3 (tz (fin bs))⟩] : List Sv) 4 = n + n + 3 + 3 := by simp [tot]; omega
  rw [ht] at hF1 ⊢
  have HF1 := Lib.hid (Ownv.mono hF1 HBW.out.size)
  have HF2 := Lib.hid (HBW.out.trans (hF2.mono HBW.out.size))
  clear hF1 hF2 ht
  refine hK _ _ ?_
  clear hK K
  refine P_one 6 #[true, true, true, true, true, true, true, false] rfl (by kernel_rfl) (by kernel_rfl) rfl (by kernel_rfl) (fun K hK => ?_)
  go_simp
  refine hK _ _ ?_
  clear hK K
  refine P_one 7 #[true, true, true, true, true, true, true, true] rfl (by kernel_rfl) (by kernel_rfl) rfl (by kernel_rfl) (fun K hK => ?_)
  go_simp
  refine hK _ _ ?_
  clear hK K
  refine P_done (by kernel_rfl) ?_ _
  go_wp2
  go_ret2
  refine ⟨B, d, rfl, ?_, HF2.out⟩
  have h := HF1.out
  rw [show flat [⟨A, n, c, bs.map ib⟩, ⟨A1, n, c1, (parL s0 bs).map ib⟩, ⟨some ⟨g7, 0, none⟩, 3, 3, u3 (tu (fin bs))⟩, ⟨some ⟨g7 + 1, 0, none⟩, 3, 3, u3 (tz (fin bs))⟩] 4 = (wordC bs).map ib from by simp [flat, wordC, u3]] at h
  exact h
end Go.Proofs.Ytmdjclfmhndjnaa
