/-
  Contracts of Own and of the reference's Words; the walk of the statement on code words. Condition: none.
-/
import Derived.Test.YtcbbkflnenkpgaaGreatWb
import Derived.Test.YtcbbkflnenkpgaaGreatUy
namespace Go.Proofs.YtcbbkflnenkpgaaGreat
open Go.RowKit CM
set_option linter.unusedVariables false
theorem own8_any (A : Option Addr) (n c : Nat) (xs : List Int) (w : World) (h : Rd .u8 w A n c xs) (hn : n ≤ 1000000) : Calls Tryz.prog 8 #[.slice A n c] w fun e w' => ∃ A' c', e = .returned (.slice A' n c') ∧ Own .u8 5 w' w.heap.size A' n c' xs ∧ Below w.heap.size w w' := by
  go_enter Tryz.func8, Tryz.ntmps8
  go_wp2_with (at_builtin; refine list_of rfl fun K hK => wp_app0 _ _ 25 rfl el53 rfl rfl h (oneCell_ints .u8 xs) (by omega) ?_; intro A2 c2 w2 hO2 hB2; have HO2 := Lib.hid hO2; have HB2 := Lib.hid hB2; clear hO2 hB2; refine hK _ _ ?_; clear hK K)
  go_ret
  exact ⟨A2, c2, ret_sl rfl rfl rfl, HO2.out, HB2.out⟩
def RwJ (W : World) (C : Nat) (L0 : List Sv) (A0 : Option Addr) (c0 : Nat) (out i : Value) (wr : World) : Prop := ∃ (j : Nat) (A : Option Addr) (c : Nat) (L : List Sv), j ≤ C ∧ i = .int .i64 j ∧ out = .slice A L.length c ∧ L.length = j ∧ BL wr W.heap.size A c L ∧ L.map (·.xs) = (L0.take j).map (fun s => Tu.encW s.xs) ∧ Below W.heap.size W wr
set_option maxRecDepth 100000 in
set_option maxHeartbeats 1000000 in
theorem rwords_any (A0 : Option Addr) (n c : Nat) (xs : List Int) (w : World) (hx : Rd .u8 w A0 n c xs) (hy : Byt xs) (hn : n ≤ 79536) : Calls Tryz.prog 10 #[.slice A0 n c] w (WdAll xs w) := by
  have HRB := Lib.hid (rblocks_any A0 n c xs w hx hy hn)
  unfold BkAll at HRB
  by_cases he : bE xs = 0
  · unfold WdAll
    rw [he] at HRB ⊢
    have HEQ := Lib.hid (show bD xs = sD (xs ++ crcSum 1 xs) by unfold bD; rw [if_pos he])
    clear he hx hy
    go_enter Tryz.func10, Tryz.ntmps10
    go_wp2_with (go_at_call 23; refine HRB.out.mono ?_; rintro e w1 ⟨A1, n1, c1, L0, rfl, hK⟩; have HK := Lib.hid hK; clear hK)
    have HEN := Lib.hid (enc0_of (HK.out.l.trans HEQ.out) HK.out.y)
    have HL : Hid (RL w1 A1 n1 c1 L0) := Lib.hid (by rw [HK.out.n]; exact HK.out.b.rl)
    have hl0 := HL.out.len
    have hC : n1 ≤ 1000 := by
      have h1 := (sD_le (xs := xs ++ crcSum 1 xs)).2
      rw [← HEQ.out, ← HK.out.l, List.length_map] at h1
      omega
    go_loopw [6, 7] (fun out i wr => RwJ w1 n1 L0 A1 c1 out i wr) (fun _ i _ => n1 - (intOf i).toNat)
    case atStart => exact ⟨0, none, 0, [], by omega, rfl, rfl, rfl, BL.nil w1 _, rfl, Below.refl _ _⟩
    case round =>
      obtain ⟨j, A, c2, L, hj, rfl, rfl, hlen, hBL, hxs, hB⟩ := hrel
      have HBL := Lib.hid hBL
      have HX := Lib.hid hxs
      have HB := Lib.hid hB
      subst hlen
      by_cases hlt : L.length < n1
      · have hRL := HL.out.below hB
        obtain ⟨s, hs, hc, hR⟩ := hRL.get hlt
        have hix := fun W => Rdv.ix hRL.o el55 (j := L.length) hlt .i64 W
        have hmem := List.mem_of_getElem? hs
        have hcl := Lib.hid (Tu.renc_all s.A s.n s.c s.xs wr hR (HEN.out s hmem).1)
        have HS := Lib.hid hs
        have HP := Lib.hid (encW_pos (HEN.out s hmem).2)
        rw [(HEN.out s hmem).2] at hcl
        clear hBL hxs hR hRL hs hmem
        go_wp2_with (first
          | (go_at_call 24; refine hcl.out.mono ?_; rintro e w2 ⟨A', n', c', rfl, hO', hB'⟩; have HO' := Lib.hid hO'; have HB' := Lib.hid hB'; have HBL1 := Lib.hid (HBL.out.below hB'); have HZ1 := Lib.hid (Nat.le_trans HB.out.size hB'.size); clear hO' hB' hcl)
          | (at_builtin; refine list_of rfl fun K hK => wp_app1 (w := w2) (base := w1.heap.size) _ _ 28 rfl el55 rfl (.slice A' n' c') rfl rfl HBL1.out.o (by omega) (by omega) HZ1.out ?_; intro A2 c3 w3 hO2 hg2; have HO2 := Lib.hid hO2; have HG2 := Lib.hid hg2; clear hO2 hg2; refine hK _ _ ?_; clear hK K))
        have hn' : 0 < n' := by have := Rd.len (Own.rd HO'.out); have := HP.out; omega
        have hA' : A' ≠ none := own_some HO'.out (q := 0) hn'
        have hge := (Ownv.blk_of HO'.out hA').1
        have hBL2 : BL w3 w1.heap.size A2 c3 (L ++ [⟨A', n', c', Tu.encW s.xs⟩]) :=
          BL.push HBL1.out (s := ⟨A', n', c', Tu.encW s.xs⟩) (Ownv.mono HO'.out HB.out.size) hA'
            (fun t ht => by have h8 := (Ownv.blk_of (HBL.out.r t ht).1 (HBL.out.r t ht).2).2; exact Nat.ne_of_lt (Nat.lt_of_lt_of_le h8 hge)) HO2.out HG2.out
        have hob : ∀ k, (Value.slice A L.length c2).ownBlock = some k → w1.heap.size ≤ k := fun k hk => Ownv.ob' HBL1.out.o hk
        have hB1 := HB.out.trans (HB'.out.mono HB.out.size)
        have hB2 := hB1.grown HG2.out hB1.size hob
        go_roundw
        case rel => exact ⟨L.length + 1, A2, c3, L ++ [⟨A', n', c', Tu.encW s.xs⟩], by omega, by go_num, by simp, by simp, hBL2, by rw [List.map_append, HX.out, take_get HS.out, List.map_append]; rfl, hB2⟩
        case measure => simp [intOf]; omega
      · have he : L.length = n1 := by omega
        have HF : Hid (L.map (·.xs) = (bD xs).map Tu.encW) := Lib.hid (by
          rw [HX.out, List.take_of_length_le (by omega), ← HK.out.l, List.map_map]; rfl)
        have HBW := Lib.hid (HK.out.k.trans (HB.out.mono HK.out.k.size))
        have HBM := Lib.hid (HBL.out.mono HK.out.k.size)
        clear hBL hxs
        go_wp2
        go_ret2
        exact ⟨A, _, c2, L, rfl, rfl, HBM.out, HF.out, HBW.out⟩
  · have HBD := Lib.hid (fun w' hB => WdAll.bad (w := w) (w' := w') hB rfl he)
    have hq : (bE xs != 0) = true := bne_t he
    clear he hx hy
    generalize bE xs = E at *
    go_enter Tryz.func10, Tryz.ntmps10
    go_wp2_with (go_at_call 23; refine HRB.out.mono ?_; rintro e w1 ⟨A1, n1, c1, L0, rfl, hK⟩; have HK := Lib.hid hK; clear hK)
    go_ret2
    exact HBD.out _ HK.out.k
theorem encW_bit {xs : List Int} : Bit (Tu.encW xs) := by
  intro x hx
  unfold Tu.encW at hx
  split at hx
  · split at hx
    · unfold Tu.wordI at hx
      obtain ⟨b, -, rfl⟩ := List.mem_map.1 hx
      cases b
      · exact .inl rfl
      · exact .inr rfl
    · simp at hx
  · simp at hx
theorem wd_byt {L : List Sv} {xs : List Int} (h : L.map (·.xs) = (bD xs).map Tu.encW) : ∀ s ∈ L, Byt s.xs := fun s hs => by
  have h1 : s.xs ∈ L.map (·.xs) := List.mem_map_of_mem hs
  rw [h] at h1
  obtain ⟨d, -, he⟩ := List.mem_map.1 h1
  rw [← he]
  exact byt_bit encW_bit
set_option maxRecDepth 100000 in
set_option maxHeartbeats 1000000 in
theorem words_law (l s a y : Int) (w : World) (hyy : 0 ≤ y ∧ y < 256) :
    Calls Tryz.prog 3 #[.agg #[.int .i64 l, .int .u32 s, .int .i64 a, .int .u8 y]] w fun e w' => e = .returned (.bool true) ∧ Below w.heap.size w w' := by
  have HP := Lib.hid (fun W => bits15_any l s a y W hyy)
  have hc0 := Blk.new w [.int .i64 l, .int .u32 s, .int .i64 a, .int .u8 y] 24 rfl
  have HB0 := Lib.hid (show Below w.heap.size w (w.alloc (.cells [.int .i64 l, .int .u32 s, .int .i64 a, .int .u8 y].toArray 24)) from (Below.refl _ _).alloc (Nat.le_refl _) _)
  clear hyy
  go_enter Tryz.func3, Tryz.ntmps3
  go_wp2_with (first
    | (refine ldrow (cs := [.int .i64 l, .int .u32 s, .int .i64 a, .int .u8 y]) rfl 24 (.tmp 1) rfl rfl hc0 _ Tryz.underlying24 rfl (by kernel_rfl) ?_)
    | (go_at_call 7; refine (HP.out _).mono ?_; rintro e w1 ⟨m, A1, xs, hm, rfl, hO1, hby, hB1⟩; have HO1 := Lib.hid (Own.rd hO1); have HBY1 := Lib.hid hby; have HB1 := Lib.hid (HB0.out.trans (hB1.mono HB0.out.size)); clear hO1 hby hB1 hc0)
    | (go_at_call 8; refine (own8_any A1 m m xs w1 HO1.out (by omega)).mono ?_; rintro e w2 ⟨A2, c2, rfl, hO2, hB2⟩; have HO2 := Lib.hid (Own.rd hO2); have HO12 := Lib.hid (Rdv.below HO1.out hB2); have HB2 := Lib.hid (HB1.out.trans (hB2.mono HB1.out.size)); clear hO2 hB2))
  refine (words_any A2 m c2 xs w2 HO2.out HBY1.out (by omega)).mono ?_
  rintro e w3 ⟨A3, n3, c3, L3, rfl, hn3, hBL3, hxs3, hB3⟩
  subst hn3
  have HO13 := Lib.hid (Rdv.below HO12.out hB3)
  have HO23 := Lib.hid (Rdv.below HO2.out hB3)
  have HL3 := Lib.hid hBL3.rl
  have HX3 := Lib.hid hxs3
  have HB3 := Lib.hid (HB2.out.trans (hB3.mono HB2.out.size))
  clear hBL3 hxs3 hB3 HO12 HO2 HO1
  go_wp2_with fail
  refine (rwords_any A1 m m xs w3 HO13.out HBY1.out (by omega)).mono ?_
  rintro e w4 ⟨A4, n4, c4, L4, rfl, hn4, hBL4, hxs4, hB4⟩
  subst hn4
  have HO14 := Lib.hid (Rdv.below HO13.out hB4)
  have HO24 := Lib.hid (Rdv.below HO23.out hB4)
  have HL34 := Lib.hid (HL3.out.below hB4)
  have HL4 := Lib.hid hBL4.rl
  have HX4 := Lib.hid hxs4
  have HB4 := Lib.hid (HB3.out.trans (hB4.mono HB3.out.size))
  clear hBL4 hxs4 hB4 HO13 HO23 HL3
  generalize bE xs = E at *
  go_wp2_with fail
  refine (lists_any A3 A4 _ c3 _ c4 L3 L4 w4 HL34.out HL4.out (wd_byt HX3.out) (wd_byt HX4.out)).mono ?_
  rintro e w5 ⟨he, q5, rfl⟩
  rw [decide_eq_true (HX3.out.trans HX4.out.symm)] at he
  subst he
  go_wp2_with fail
  refine (same_any A2 A1 m c2 m m xs xs _ (Rdv.drewN HO24.out q5) (Rdv.drewN HO14.out q5)).mono ?_
  rintro e w6 ⟨he, q6, rfl⟩
  rw [decide_eq_true rfl] at he
  subst he
  have HBV : Hid (Below w.heap.size w (w4.drewN (q5 + q6))) := Lib.hid (HB4.out.trans (Qt.below ⟨q5 + q6, rfl⟩ w.heap.size))
  go_wp2_with fail
  refine (known_any _).mono ?_
  rintro e w9 ⟨rfl, hB9⟩
  have HBX := Lib.hid (HBV.out.trans (hB9.mono HBV.out.size))
  clear hB9
  go_wp2
  go_ret
  exact ⟨rfl, HBX.out⟩
end Go.Proofs.YtcbbkflnenkpgaaGreat
