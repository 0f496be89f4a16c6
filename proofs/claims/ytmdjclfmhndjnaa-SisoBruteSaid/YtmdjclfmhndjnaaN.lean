/-
  Contract of trellis.Encode: the parity bits and the last state, or the error. Condition: at most 100000 bits.
-/
import Derived.Test.YtmdjclfmhndjnaaM
import Derived.Deep.RegionHeld3
import Derived.OwnWalk
namespace Go.Proofs.Ytmdjclfmhndjnaa
open Go.RowKit
set_option linter.unusedVariables false
abbrev St3 := Bool × Bool × Bool
def stp (s : St3) (x : Bool) : St3 := (x ^^ s.2.1 ^^ s.2.2, s.1, s.2.1)
def par (s : St3) (x : Bool) : Bool := x ^^ s.2.1 ^^ s.2.2 ^^ s.1 ^^ s.2.2
def parL (s : St3) : List Bool → List Bool
  | [] => []
  | x :: l => par s x :: parL (stp s x) l
def s0 : St3 := (false, false, false)
theorem parL_snoc (l : List Bool) (x : Bool) : ∀ s, parL s (l ++ [x]) = parL s l ++ [par (l.foldl stp s) x] := by
  induction l with
  | nil => intro s; rfl
  | cons y l ih => intro s; simp only [List.cons_append, parL, List.foldl_cons, ih]
theorem parL_len (l : List Bool) : ∀ s, (parL s l).length = l.length := by
  induction l with
  | nil => intro s; rfl
  | cons y l ih => intro s; simp [parL, ih]
def EncInv (w : World) (o : Nat) (bs : List Bool) (i : Value) (wr : World) : Prop :=
  ∃ (j : Nat) (A : Option Addr) (cp : Nat), j ≤ bs.length ∧ i = .int .i64 j ∧ EncSt w.heap.size wr o ((bs.take j).foldl stp s0).1 ((bs.take j).foldl stp s0).2.1 ((bs.take j).foldl stp s0).2.2 A j cp (parL s0 (bs.take j)) ∧ Below w.heap.size w wr
theorem gi_ib (bs : List Bool) (j : Nat) (h : j < bs.length) : gi (bs.map ib) j = ib bs[j] := by
  rw [gi_eq _ _ (by simpa using h)]; simp
theorem valid_ib (bs : List Bool) : ValidB (bs.map ib) = true := validB_t fun q hq => by
  rw [gi_ib _ _ (by simpa using hq)]; cases bs[q]'(by simpa using hq) <;> decide
set_option maxRecDepth 100000 in
set_option maxHeartbeats 600000 in
theorem tencode_any (A : Option Addr) (n c : Nat) (bs : List Bool) (w : World) (h : Rd .u8 w A n c (bs.map ib)) (hn : n ≤ 100000) :
    Calls Try.prog 53 #[.slice A n c] w fun e w' => ∃ A' c', e = .returned (.tuple #[.slice A' n c', .int .i64 (stI (bs.foldl stp s0).1 (bs.foldl stp s0).2.1 (bs.foldl stp s0).2.2), .int .i64 0]) ∧ Own .u8 5 w' w.heap.size A' n c' ((parL s0 bs).map ib) ∧ Below w.heap.size w w' := by
  have hl : bs.length = n := by have := h.len; simpa using this
  have hbd := h.bd.1
  have hv := valid_ib bs
  go_enter Try.func53, Try.ntmps53
  go_wp2_with (go_at_call 64; refine (contains_any A n c _ w h).mono ?_; rintro e w' ⟨rfl, rfl⟩)
  have hob : Ownv 119 (w.alloc (.cells #[.int .i64 0, .int .i64 0, .int .i64 0, .slice none 0 0] 119)) w.heap.size (some ⟨w.heap.size, 0, none⟩) 4 4 [.int .i64 (ib false), .int .i64 (ib false), .int .i64 (ib false), .slice none 0 0] :=
    Ownv.lit w #[.int .i64 0, .int .i64 0, .int .i64 0, .slice none 0 0] 119 rfl (Nat.le_refl _) (by show 4 ≤ maxLen; unfold maxLen; omega)
  have hst : EncSt w.heap.size (w.alloc (.cells #[.int .i64 0, .int .i64 0, .int .i64 0, .slice none 0 0] 119)) w.heap.size false false false none 0 0 [] := ⟨hob, Own.nilv _ _ _ _, fun h => absurd rfl h, by simp⟩
  have hB0 : Below w.heap.size w (w.alloc (.cells #[.int .i64 0, .int .i64 0, .int .i64 0, .slice none 0 0] 119)) := (Below.refl _ w).alloc (Nat.le_refl _) _
  have HH := Lib.hid h
  have HL := Lib.hid hl
  clear hob h hl
  go_loopw [12] (fun i wr => EncInv w w.heap.size bs i wr) (fun i _ => n - (intOf i).toNat)
  case atStart => exact ⟨0, none, 0, Nat.zero_le _, rfl, hst, hB0⟩
  case round =>
    obtain ⟨j, A1, cp, hj, rfl, hst, hB⟩ := hrel
    rw [HL.out] at hj
    by_cases hlt : j < n
    · have hj' : j < bs.length := by rw [HL.out]; exact hlt
      have hx := Rdv.below HH.out hB
      have hix := fun W => Rdv.ix hx el26 hlt .i64 W
      have hcell := Rd.cell hx hlt
      rw [gi_ib _ _ hj'] at hcell
      have ht : bs.take (j + 1) = bs.take j ++ [bs[j]] := by rw [List.take_add_one, List.getElem?_eq_getElem hj']; rfl
      have e1 : (bs.take (j + 1)).foldl stp s0 = stp ((bs.take j).foldl stp s0) bs[j] := by rw [ht, List.foldl_append]; rfl
      have e2 : parL s0 (bs.take (j + 1)) = parL s0 (bs.take j) ++ [par ((bs.take j).foldl stp s0) bs[j]] := by rw [ht, parL_snoc]
      have E1 := Lib.hid e1; have E2 := Lib.hid e2
      have HST := Lib.hid hst
      have hb0 : 0 ≤ ib bs[j] := by cases bs[j] <;> decide
      have hb1 : ib bs[j] ≤ 1 := by cases bs[j] <;> decide
      clear ht e1 e2 hst
      generalize (bs.take j).foldl stp s0 = s at *
      generalize parL s0 (bs.take j) = ps at *
      generalize bs[j] = x at *
      go_wp2_with (go_at_call 66; refine (takes_any w.heap.size w.heap.size s.1 s.2.1 s.2.2 x A1 j cp ps _ HST.out (by omega)).mono ?_; rintro e w4 ⟨rfl, ⟨A2, cp2, hst2⟩, hB2⟩)
      refine ⟨⟨j + 1, A2, cp2, by omega, by go_num, ?_, hB.trans hB2⟩, by simp [intOf]; omega⟩
      rw [E1.out, E2.out]
      exact hst2
    · obtain rfl : j = n := by omega
      rw [← HL.out, List.take_length, HL.out] at hst
      have HST := Lib.hid hst
      obtain ⟨c0, c1, c2, c3, -, -, -, -⟩ := hst.facts
      clear hst
      generalize hs : bs.foldl stp s0 = s at *
      have HS := Lib.hid hs
      clear hs
      have hs60 := fun W => Lib.hid (state_any s.1 s.2.1 s.2.2 W)
      unfold regV at hs60
      go_wp2
      go_region_held3 (fun W => W.cell? ⟨w.heap.size, 0, none⟩ = some (.int .i64 (ib s.1)) ∧ W.cell? ⟨w.heap.size, 1, none⟩ = some (.int .i64 (ib s.2.1)) ∧ W.cell? ⟨w.heap.size, 2, none⟩ = some (.int .i64 (ib s.2.2)) ∧ W.cell? ⟨w.heap.size, 3, none⟩ = some (.slice A1 j cp)) (first | exact ⟨c0, c1, c2, c3⟩ | exact ⟨m0, m1, m2, m3⟩)
        (first
          | (go_at_call 67; refine (hs60 _).out.mono ?_; rintro e w5 ⟨rfl, hB5⟩; obtain ⟨m0, m1, m2, m3, -, -, -, -⟩ := (HST.out.below ((Below.refl _ _).drew.trans hB5)).facts))
      go_wp2
      go_ret3
      rw [HS.out]
      have hq := (Below.refl wr.heap.size wr).drew.trans hB5
      exact ⟨A1, cp, rfl, (HST.out.below hq).row, hB.trans (hq.mono hB.size)⟩
theorem tencode_bad (A : Option Addr) (n c : Nat) (xs : List Int) (w : World) (h : Rd .u8 w A n c xs) (hv : ValidB xs = false) :
    Calls Try.prog 53 #[.slice A n c] w fun e w' => e = .returned (.tuple #[.slice none 0 0, .int .i64 0, .int .i64 3]) ∧ w = w' := by
  go_enter Try.func53, Try.ntmps53
  go_wp2_with (go_at_call 64; refine (contains_any A n c _ w h).mono ?_; rintro e w' ⟨rfl, rfl⟩)
  go_ret3
  exact ⟨rfl, rfl⟩
end Go.Proofs.Ytmdjclfmhndjnaa
