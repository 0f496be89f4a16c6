/-
  Contract of turbo.encoded: an encoder behind its input (its tail and its parity bits), or the error. Condition: at most 100000 bits.
-/
import Derived.Test.YtkagdiejpcfggaaP
namespace Go.Proofs.Ytkagdiejpcfggaa
open Go.RowKit
set_option linter.unusedVariables false
/-- Values stored cell by cell. -/
def putC (w : World) (b : Nat) : Nat → List Value → World
  | _, [] => w
  | j, v :: l => putC (w.setCell ⟨b, j, none⟩ v) b (j + 1) l
theorem Ownv.putC_ {e : TypeId} {base b n c : Nat} : ∀ (l : List Value) {w : World} {vs : List Value} (j : Nat), Ownv e w base (some ⟨b, 0, none⟩) n c vs → j + l.length ≤ n → Ownv e (putC w b j l) base (some ⟨b, 0, none⟩) n c (vs.take j ++ l ++ vs.drop (j + l.length)) ∧ w.grownBy (putC w b j l) (some b)
  | [], w, vs, j, h, hj => ⟨by simpa [putC] using h, World.grownBy.refl _ _⟩
  | v :: l, w, vs, j, h, hj => by
    have hl := h.rd.len
    simp only [List.length_cons] at hj
    have h1 := Ownv.set_ h (j := j) (by omega) v
    simp only [adr_some, Nat.zero_add] at h1
    have h2 := Ownv.putC_ l (j + 1) h1.1 (by omega)
    refine ⟨?_, h1.2.trans h2.2⟩
    have e1 : (vs.set j v).take (j + 1) ++ l ++ (vs.set j v).drop (j + 1 + l.length) = vs.take j ++ (v :: l) ++ vs.drop (j + (v :: l).length) := by
      rw [List.take_add_one, List.take_set_of_le (Nat.le_refl j), List.getElem?_set_self (by omega), List.drop_set_of_lt (by omega)]
      simp only [Option.toList_some, List.append_assoc, List.cons_append, List.nil_append, List.length_cons]
      rw [show j + 1 + l.length = j + (l.length + 1) by omega]
    rw [← e1]
    exact h2.1
theorem Ownv.putAll {e : TypeId} {base b n c : Nat} (l : List Value) {w : World} {vs : List Value} (h : Ownv e w base (some ⟨b, 0, none⟩) n c vs) (hl : l.length = n) : Ownv e (putC w b 0 l) base (some ⟨b, 0, none⟩) n c l ∧ w.grownBy (putC w b 0 l) (some b) := by
  have := Ownv.putC_ l 0 h (by omega)
  have hv := h.rd.len
  rw [List.take_zero, List.nil_append, Nat.zero_add, List.drop_of_length_le (by omega), List.append_nil] at this
  exact this
def tlI (s : St3) (j : Nat) : Int := if j < 3 then ib (tu s j) else ib (tz s (j - 3))
/-- an encoder behind its input -/
def encL (s : St3) (A : Option Addr) (n c : Nat) : List Value := [.int .u8 (tlI s 0), .int .u8 (tlI s 1), .int .u8 (tlI s 2), .int .u8 (tlI s 3), .int .u8 (tlI s 4), .int .u8 (tlI s 5), .slice A n c]
def encV (s : St3) (A : Option Addr) (n c : Nat) : Value := .agg (encL s A n c).toArray
def enc0 : List Value := [.int .u8 0, .int .u8 0, .int .u8 0, .int .u8 0, .int .u8 0, .int .u8 0, .slice none 0 0]
theorem res28 (a : Array Value) (W : World) (base g : Nat) (l : List Value) (hl : l.length = 7) (E : Int) (h2 : a.getD 2 undef = .pointer (some ⟨g, 0, none⟩)) (h3 : a.getD 3 undef = .int .i64 E) (hO : Ownv 57 W base (some ⟨g, 0, none⟩) 7 7 l) :
    (results Try.f28 a).run Try.prog W = .ok (.tuple #[.agg l.toArray, .int .i64 E]) W := by
  rw [results_cell_tmp rfl, h2, h3]
  have h9 : (Try.prog.info? 57).map (·.size) = some 7 := by kernel_rfl
  have hl := run_loadVar_row (P := Try.prog) W g 57 57 _ (0, 0) _ (Ownv.row hO) Try.underlying57 rfl (by rw [h9]; simp [hl])
  simp [asAddr, hl, Sem.run_pure]
set_option maxRecDepth 100000 in
set_option maxHeartbeats 600000 in
theorem encoded_bad (A : Option Addr) (n c : Nat) (xs : List Int) (w : World) (h : Rd .u8 w A n c xs) (hv : ValidB xs = false) :
    Calls Try.prog 28 #[.slice A n c] w fun e w' => e = .returned (.tuple #[.agg enc0.toArray, .int .i64 3]) ∧ Below w.heap.size w w' := by
  have hO : Ownv 57 (w.alloc (.cells enc0.toArray 57)) w.heap.size (some ⟨w.heap.size, 0, none⟩) 7 7 enc0 := Ownv.lit w enc0.toArray 57 rfl (Nat.le_refl _) (by show 7 ≤ maxLen; unfold maxLen; omega)
  have HO := Lib.hid hO
  have f0 := Ownv.frozen hO (by omega) 0
  have f1 := Ownv.frozen hO (by omega) 1
  have f2 := Ownv.frozen hO (by omega) 2
  have f3 := Ownv.frozen hO (by omega) 3
  have f4 := Ownv.frozen hO (by omega) 4
  have f5 := Ownv.frozen hO (by omega) 5
  have f6 := Ownv.frozen hO (by omega) 6
  clear hO
  have hb := tencode_bad A n c xs _ (Rdv.alloc h (.cells enc0.toArray 57)) hv
  unfold enc0 at hb f0 f1 f2 f3 f4 f5 f6
  simp only [adr_some, Nat.zero_add] at f0 f1 f2 f3 f4 f5 f6
  have HB := Lib.hid hb
  clear hb
  go_enter Try.func28, Try.ntmps28
  go_wp2_with (go_at_call 47; refine HB.out.mono ?_; rintro e w' ⟨rfl, rfl⟩)
  exact bodyPost_ret (res28 _ _ w.heap.size w.heap.size enc0 rfl 3 rfl rfl HO.out) rfl ⟨rfl, (Below.refl _ w).alloc (Nat.le_refl _) _⟩
set_option maxRecDepth 100000 in
set_option maxHeartbeats 600000 in
theorem encoded_any (A : Option Addr) (n c : Nat) (bs : List Bool) (w : World) (h : Rd .u8 w A n c (bs.map ib)) (hn : n ≤ 100000) :
    Calls Try.prog 28 #[.slice A n c] w fun e w' => ∃ A' c', e = .returned (.tuple #[encV (fin bs) A' n c', .int .i64 0]) ∧ Own .u8 5 w' w.heap.size A' n c' ((parL s0 bs).map ib) ∧ Below w.heap.size w w' := by
  have hO : Ownv 57 (w.alloc (.cells enc0.toArray 57)) w.heap.size (some ⟨w.heap.size, 0, none⟩) 7 7 enc0 := Ownv.lit w enc0.toArray 57 rfl (Nat.le_refl _) (by show 7 ≤ maxLen; unfold maxLen; omega)
  have HO := Lib.hid hO
  clear hO
  have he := tencode_any A n c bs _ (Rdv.alloc h (.cells enc0.toArray 57)) hn
  unfold enc0 at he
  have HE := Lib.hid he
  clear he
  have ht := fun W => Lib.hid (tail_any (fin bs).1 (fin bs).2.1 (fin bs).2.2 W)
  unfold fin at *
  generalize hs : List.foldl stp s0 bs = s at *
  generalize hp : (parL s0 bs).map ib = ps at *
  have HP := Lib.hid hp
  have HS := Lib.hid hs
  clear hp hs h
  go_enter Try.func28, Try.ntmps28
  go_wp2_with fail
  refine HE.out.mono ?_
  rintro e w1 ⟨A1, c1, rfl, hR1, hB1⟩
  have HR1 := Lib.hid hR1
  have hsz : w.heap.size + 1 ≤ w1.heap.size := by have := hB1.size; simpa using this
  have HB1 := Lib.hid hB1
  clear hR1 hB1 HE
  have HO1 := Lib.hid (HO.out.below HB1.out)
  go_wp2_with (go_at_call 48; refine (ht _).out.mono ?_; rintro e w2 ⟨rfl, hB2⟩; have hO2 := ((HO1.out.below hB2).alloc (.cells #[.int .u8 (ib (tlU s.1 s.2.1 s.2.2 0)), .int .u8 (ib (tlU s.1 s.2.1 s.2.2 1)), .int .u8 (ib (tlU s.1 s.2.1 s.2.2 2))] 53)).alloc (.cells #[.int .u8 (ib (tlZ s.1 s.2.1 s.2.2 0)), .int .u8 (ib (tlZ s.1 s.2.1 s.2.2 1)), .int .u8 (ib (tlZ s.1 s.2.1 s.2.2 2))] 53); have hsz2 := hB2.size; have d0 := hO2.rd.at_ 0 _ rfl; have f0 := Ownv.frozen hO2 (by omega) 0; have d1 := hO2.rd.at_ 1 _ rfl; have f1 := Ownv.frozen hO2 (by omega) 1; have d2 := hO2.rd.at_ 2 _ rfl; have f2 := Ownv.frozen hO2 (by omega) 2; have d3 := hO2.rd.at_ 3 _ rfl; have f3 := Ownv.frozen hO2 (by omega) 3; have d4 := hO2.rd.at_ 4 _ rfl; have f4 := Ownv.frozen hO2 (by omega) 4; have d5 := hO2.rd.at_ 5 _ rfl; have f5 := Ownv.frozen hO2 (by omega) 5; have d6 := hO2.rd.at_ 6 _ rfl; have f6 := Ownv.frozen hO2 (by omega) 6; simp only [adr_some, Nat.zero_add] at d0 d1 d2 d3 d4 d5 d6 f0 f1 f2 f3 f4 f5 f6; have HO2 := Lib.hid hO2; have HB2 := Lib.hid hB2; clear hO2 hB2)
  have a2 := Ownv.putAll (encL s A1 n c1) HO2.out rfl
  have b1 : Below w.heap.size w w1 := ((Below.refl _ w).alloc (Nat.le_refl _) _).trans (HB1.out.mono (by simp))
  have b2 : Below w.heap.size w w2 := b1.trans (HB2.out.mono (by omega))
  have b3 := ((b2.alloc (by omega) (.cells #[.int .u8 (ib (tlU s.1 s.2.1 s.2.2 0)), .int .u8 (ib (tlU s.1 s.2.1 s.2.2 1)), .int .u8 (ib (tlU s.1 s.2.1 s.2.2 2))] 53)).alloc (by simp; omega) (.cells #[.int .u8 (ib (tlZ s.1 s.2.1 s.2.2 0)), .int .u8 (ib (tlZ s.1 s.2.1 s.2.2 1)), .int .u8 (ib (tlZ s.1 s.2.1 s.2.2 2))] 53)).grown a2.2 (by simp; omega) (fun k hk => by have := Option.some.inj hk; omega)
  have r1 : Own .u8 5 _ w.heap.size A1 n c1 ps := Ownv.grown (Ownv.alloc (Ownv.alloc (Ownv.below (Ownv.mono HR1.out (by simp)) HB2.out) _) _) a2.2 (fun hA he => by have h8 := (Ownv.blk_of HR1.out hA).1; have := Option.some.inj he; simp at h8; omega)
  refine bodyPost_ret (res28 _ _ w.heap.size w.heap.size (encL s A1 n c1) rfl 0 rfl rfl a2.1) rfl ⟨A1, c1, ?_, ?_, b3⟩
  · rw [← HS.out]; rfl
  · exact r1
end Go.Proofs.Ytkagdiejpcfggaa
