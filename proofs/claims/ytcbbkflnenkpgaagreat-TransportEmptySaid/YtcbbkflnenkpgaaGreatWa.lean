/-
  Contracts of each over the closure of transport.Words and of transport.Words. Condition: slices that lie in memory.
-/
import Derived.Test.YtcbbkflnenkpgaaGreatVm
import Derived.Test.YtcbbkflnenkpgaaGreatTz
namespace Go.Proofs.YtcbbkflnenkpgaaGreat
open Go.RowKit CM
set_option linter.unusedVariables false
theorem cl21_any (i : Int) (A : Option Addr) (n c : Nat) (xs : List Int) (w : World) (h : Rd .u8 w A n c xs) (h0 : ∀ x ∈ xs, 0 ≤ x) :
    Calls Tryz.prog 21 #[.int .i64 i, .slice A n c] w fun e w' => ∃ A' m c', e = .returned (.tuple #[.slice A' m c', .int .i64 (Tu.encE xs)]) ∧ Own .u8 5 w' w.heap.size A' m c' (Tu.encW xs) ∧ Below w.heap.size w w' := by
  have HE := Lib.hid (Tu.enc_all A n c xs w h h0)
  go_enter Tryz.func21, Tryz.ntmps21
  go_wp2_with fail
  refine HE.out.mono ?_
  rintro e w1 ⟨A', m, c', rfl, hO, hB⟩
  have HO := Lib.hid hO
  have HB := Lib.hid hB
  clear hO hB
  go_wp2
  go_ret2
  exact ⟨A', m, c', rfl, HO.out, HB.out⟩
/-- rows that can be encoded -/
def Enc0 (L : List Sv) : Prop := ∀ s ∈ L, (∀ x ∈ s.xs, 0 ≤ x) ∧ Tu.encE s.xs = 0
def EwI (W : World) (C : Nat) (L0 : List Sv) (out i : Value) (wr : World) : Prop := ∃ (j : Nat) (A : Option Addr) (c : Nat) (L : List Sv), j ≤ C ∧ i = .int .i64 j ∧ out = .slice A L.length c ∧ L.length = j ∧ BL wr W.heap.size A c L ∧ L.map (·.xs) = (L0.take j).map (fun s => Tu.encW s.xs) ∧ Below W.heap.size W wr
theorem encW_pos {xs : List Int} (h : Tu.encE xs = 0) : 0 < (Tu.encW xs).length := by
  unfold Tu.encE at h
  unfold Tu.encW
  split at h
  · rename_i hv
    rw [if_pos hv]
    split at h
    · rename_i hb
      rw [if_pos hb, Tu.wordI_len]; omega
    · cases h
  · cases h
set_option maxRecDepth 100000 in
set_option maxHeartbeats 1000000 in
theorem each20_any (A0 : Option Addr) (C c0 : Nat) (L0 : List Sv) (W : World) (hL : RL W A0 C c0 L0) (he : Enc0 L0) (hC : C ≤ 1000) :
    Calls Tryz.prog 20 #[.slice A0 C c0, .func (.func 21) #[] #[]] W fun e w' => ∃ A c L, e = .returned (.tuple #[.slice A L.length c, .int .i64 0]) ∧ BL w' W.heap.size A c L ∧ L.map (·.xs) = L0.map (fun s => Tu.encW s.xs) ∧ Below W.heap.size W w' := by
  have hl0 := hL.len
  have HE := Lib.hid he
  have HL := Lib.hid hL
  clear he
  go_enter Tryz.func20, Tryz.ntmps20
  go_wp2
  go_loopw [6, 13] (fun out i wr => EwI W C L0 out i wr) (fun _ i _ => C - (intOf i).toNat)
  case atStart => exact ⟨0, none, 0, [], by omega, rfl, rfl, rfl, BL.nil W _, rfl, Below.refl _ _⟩
  case round =>
    obtain ⟨j, A, c, L, hj, rfl, rfl, hlen, hBL, hxs, hB⟩ := hrel
    have HBL := Lib.hid hBL
    have HX := Lib.hid hxs
    have HB := Lib.hid hB
    subst hlen
    by_cases hlt : L.length < C
    · have hRL := HL.out.below hB
      obtain ⟨s, hs, hc, hR⟩ := hRL.get hlt
      have hix := fun W => Rdv.ix hRL.o el55 (j := L.length) hlt .i64 W
      have hmem := List.mem_of_getElem? hs
      have hcl := Lib.hid (cl21_any (L.length : Int) s.A s.n s.c s.xs wr hR (HE.out s hmem).1)
      have HS := Lib.hid hs
      have HP := Lib.hid (encW_pos (HE.out s hmem).2)
      rw [(HE.out s hmem).2] at hcl
      clear hBL hxs hR hRL hs hmem hL
      go_wp2_with (first
        | (go_at_call 21; refine hcl.out.mono ?_; rintro e w1 ⟨A', n', c', rfl, hO', hB'⟩; have HO' := Lib.hid hO'; have HB' := Lib.hid hB'; have HBL1 := Lib.hid (HBL.out.below hB'); have HZ1 := Lib.hid (Nat.le_trans HB.out.size hB'.size); clear hO' hB' hcl)
        | (at_builtin; refine list_of rfl fun K hK => wp_app1 (w := w1) (base := W.heap.size) _ _ 28 rfl el55 rfl (.slice A' n' c') rfl rfl HBL1.out.o (by omega) (by omega) HZ1.out ?_; intro A2 c2 w2 hO2 hg2; have HO2 := Lib.hid hO2; have HG2 := Lib.hid hg2; clear hO2 hg2; refine hK _ _ ?_; clear hK K))
      have hn' : 0 < n' := by have := Rd.len (Own.rd HO'.out); have := HP.out; omega
      have hA' : A' ≠ none := own_some HO'.out (q := 0) hn'
      have hge := (Ownv.blk_of HO'.out hA').1
      have hBL2 : BL w2 W.heap.size A2 c2 (L ++ [⟨A', n', c', Tu.encW s.xs⟩]) :=
        BL.push HBL1.out (s := ⟨A', n', c', Tu.encW s.xs⟩) (Ownv.mono HO'.out HB.out.size) hA'
          (fun t ht => by have h8 := (Ownv.blk_of (HBL.out.r t ht).1 (HBL.out.r t ht).2).2; exact Nat.ne_of_lt (Nat.lt_of_lt_of_le h8 hge)) HO2.out HG2.out
      have hob : ∀ k, (Value.slice A L.length c).ownBlock = some k → W.heap.size ≤ k := fun k hk => Ownv.ob' HBL1.out.o hk
      have hB1 := HB.out.trans (HB'.out.mono HB.out.size)
      have hB2 := hB1.grown HG2.out hB1.size hob
      go_roundw
      case rel => exact ⟨L.length + 1, A2, c2, L ++ [⟨A', n', c', Tu.encW s.xs⟩], by omega, by go_num, by simp, by simp, hBL2, by rw [List.map_append, HX.out, take_get HS.out, List.map_append]; rfl, hB2⟩
      case measure => simp [intOf]; omega
    · have he : L.length = C := by omega
      have HF : Hid (L.map (·.xs) = L0.map (fun s => Tu.encW s.xs)) := Lib.hid (by rw [HX.out, List.take_of_length_le (by omega)])
      clear hBL hxs
      go_wp2
      go_ret2
      exact ⟨A, c, L, rfl, HBL.out, HF.out, HB.out⟩
end Go.Proofs.YtcbbkflnenkpgaaGreat
