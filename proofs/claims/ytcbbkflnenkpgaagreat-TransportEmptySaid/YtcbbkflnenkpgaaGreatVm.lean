/-
  Splitting and joining of blocks, both texts; transport.Join, the reference's Blocks. Condition: slices that lie in memory.
-/
import Derived.Test.YtcbbkflnenkpgaaGreatSm
import Derived.Laws.BytesArg
import Derived.Test.YtcbbkflnenkpgaaGreatSy
import Derived.BigQuiet
import Derived.StillTailTactics
import Derived.Test.YtcbbkflnenkpgaaGreatUl
namespace Go.Proofs.YtcbbkflnenkpgaaGreat
open Go.RowKit
set_option linter.unusedVariables false
theorem lv55 {W : World} {b : Nat} {A : Option Addr} {n c : Nat} (h : W.cell? ⟨b, 0, none⟩ = some (.slice A n c)) : (loadVar 28 ⟨b, 0, none⟩).run Tryz.prog W = .ok (.slice A n c) W := by
  simp [go_sem, h]
theorem lv53 {W : World} {b : Nat} {A : Option Addr} {n c : Nat} (h : W.cell? ⟨b, 0, none⟩ = some (.slice A n c)) : (loadVar 25 ⟨b, 0, none⟩).run Tryz.prog W = .ok (.slice A n c) W := by
  simp [go_sem, h]
set_option maxRecDepth 100000 in
theorem splitc1_any (p : Nat) (v : Value) (w : World) (h : Blk w p 28 [v]) : Calls Tryz.prog 42 #[.pointer (some ⟨p, 0, none⟩)] w fun e w' => e = .returned (.tuple #[]) ∧ (Blk w' p 28 [.slice none 0 0] ∧ w.grownBy w' (some p)) := by
  have d0 := h.cell (j := 0) rfl
  have g0 := h.frozen 0
  have hF := h.set 0 (.slice none 0 0)
  have HF := Lib.hid hF
  clear hF
  go_enter Tryz.func42, Tryz.ntmps42
  go_wp2
  go_end0
  exact ⟨rfl, HF.out, grownBy_set _ _ _ _⟩
set_option maxRecDepth 100000 in
theorem joinc1_any (p : Nat) (v : Value) (w : World) (h : Blk w p 25 [v]) : Calls Tryz.prog 79 #[.pointer (some ⟨p, 0, none⟩)] w fun e w' => e = .returned (.tuple #[]) ∧ (Blk w' p 25 [.slice none 0 0] ∧ w.grownBy w' (some p)) := by
  have d0 := h.cell (j := 0) rfl
  have g0 := h.frozen 0
  have hF := h.set 0 (.slice none 0 0)
  have HF := Lib.hid hF
  clear hF
  go_enter Tryz.func79, Tryz.ntmps79
  go_wp2
  go_end0
  exact ⟨rfl, HF.out, grownBy_set _ _ _ _⟩
def SpBad (k : Int) (w : World) (e : Ending) (w' : World) : Prop := e = .returned (.tuple #[.slice none 0 0, .int .i64 k]) ∧ Below w.heap.size w w'
/-- the end of a Split that has panicked -/
theorem split_end (w w1 : World) (TB EB : Nat) (k : Int) (hT : Blk w1 TB 28 [.slice none 0 0]) (hE : Blk w1 EB 29 [.int .i64 0]) (hB : Below w.heap.size w w1) (hT0 : w.heap.size ≤ TB) (hE0 : w.heap.size ≤ EB) (hne : EB ≠ TB) (ts : Array Value) (h2 : ts.getD 2 undef = .pointer (some ⟨TB, 0, none⟩)) (h3 : ts.getD 3 undef = .pointer (some ⟨EB, 0, none⟩)) :
    Leaves Tryz.prog Tryz.f19 ts (SpBad k w) [{ target := .fn (.func 41) #[], args := #[.pointer (some ⟨EB, 0, none⟩), .func (.func 42) #[] #[.pointer (some ⟨TB, 0, none⟩)]] }] (.panicking (pan k)) w1 := by
  refine leaves_cons (f := 41) (args := #[.pointer (some ⟨EB, 0, none⟩), .func (.func 42) #[] #[.pointer (some ⟨TB, 0, none⟩)]]) (by simp) (by simp [go_sem]) ?_
  refine (caught_pan65 ⟨EB, 0, none⟩ _ k _ (fun W => Blk W TB 28 [.slice none 0 0] ∧ w1.grownBy W (some TB)) (splitc1_any TB _ w1 hT) (fun W hW => ?_)).mono ?_
  · have hE2 := hE.grown hW.2 (by intro he; exact hne (Option.some.inj he))
    exact ⟨⟨_, hE2.cell (j := 0) rfl⟩, hE2.frozen 0⟩
  rintro e u' w'' ⟨rfl, rfl, W2, hW2, rfl⟩
  have hE2 := hE.grown hW2.2 (by intro he; exact hne (Option.some.inj he))
  have l1 := lv55 ((hW2.1.other (g := EB) hne 0 (.int .i64 k)).cell (j := 0) (v := .slice none 0 0) rfl)
  have l2 := lv24 ((hE2.set 0 (.int .i64 k)).cell (j := 0) (v := .int .i64 k) rfl)
  have hBe := (hB.grown hW2.2 hB.size (fun k hk => by cases hk; exact hT0)).setCell (p := ⟨EB, 0, none⟩) hE0 (.int .i64 k)
  have HBE := Lib.hid hBe
  clear hBe hW2 hE2 hE hT hB
  have h2' : ts[2]?.getD undef = .pointer (some ⟨TB, 0, none⟩) := by simpa using h2
  have h3' : ts[3]?.getD undef = .pointer (some ⟨EB, 0, none⟩) := by simpa using h3
  simp [Leaves, settle, results, Tryz.results19, h2', h3', asAddr, l1, l2, Sem.run_bind, Result.andThen]
  exact ⟨rfl, HBE.out⟩
set_option maxRecDepth 100000 in
theorem split_bad (A : Option Addr) (n c : Nat) (w : World) (h : n < 1 ∨ 79560 < n) : Calls Tryz.prog 19 #[.slice A n c] w (SpBad 2 w) := by
  have hmf : ∀ (fn : Fn) (first cap : Array Value) (w : World), (Instr.makeFunc fn first cap).run Tryz.prog w = .ok (.func fn first cap) w := fun _ _ _ _ => rfl
  have HH := Lib.hid h
  clear h
  have hT0 : Blk ((w.alloc (.cells #[.slice none 0 0] 28)).alloc (.cells #[.int .i64 0] 29)) w.heap.size 28 [.slice none 0 0] := (Blk.new w [.slice none 0 0] 28 rfl).alloc _
  have hE0 : Blk ((w.alloc (.cells #[.slice none 0 0] 28)).alloc (.cells #[.int .i64 0] 29)) (w.heap.size + 1) 29 [.int .i64 0] := Blk.new _ [.int .i64 0] 29 (by simp)
  have hB0 : Below w.heap.size w ((w.alloc (.cells #[.slice none 0 0] 28)).alloc (.cells #[.int .i64 0] 29)) := ((Below.refl _ _).alloc (Nat.le_refl _) _).alloc (by simp) _
  go_enter_defers Tryz.func19, Tryz.ntmps19
  go_wp2_with fail
  generalize (w.alloc (.cells #[.slice none 0 0] 28)).alloc (.cells #[.int .i64 0] 29) = W at *
  refine (plan_bad n W (by have := HH.out; omega)).mono ?_
  rintro e w1 ⟨rfl, hB1⟩
  exact split_end w w1 w.heap.size (w.heap.size + 1) 2 (hT0.below hB1) (hE0.below hB1) (hB0.trans (hB1.mono hB0.size)) (Nat.le_refl _) (by omega) (by omega) _ rfl rfl
set_option maxRecDepth 100000 in
theorem split_bit (A : Option Addr) (n c : Nat) (xs : List Int) (w : World) (hx : Rd .u8 w A n c xs) (h1 : 1 ≤ n) (h2 : n ≤ 79560) (hv : ValidB xs = false) : Calls Tryz.prog 19 #[.slice A n c] w (SpBad 3 w) := by
  have hmf : ∀ (fn : Fn) (first cap : Array Value) (w : World), (Instr.makeFunc fn first cap).run Tryz.prog w = .ok (.func fn first cap) w := fun _ _ _ _ => rfl
  have hT0 : Blk ((w.alloc (.cells #[.slice none 0 0] 28)).alloc (.cells #[.int .i64 0] 29)) w.heap.size 28 [.slice none 0 0] := (Blk.new w [.slice none 0 0] 28 rfl).alloc _
  have hE0 : Blk ((w.alloc (.cells #[.slice none 0 0] 28)).alloc (.cells #[.int .i64 0] 29)) (w.heap.size + 1) 29 [.int .i64 0] := Blk.new _ [.int .i64 0] 29 (by simp)
  have hB0 : Below w.heap.size w ((w.alloc (.cells #[.slice none 0 0] 28)).alloc (.cells #[.int .i64 0] 29)) := ((Below.refl _ _).alloc (Nat.le_refl _) _).alloc (by simp) _
  go_enter_defers Tryz.func19, Tryz.ntmps19
  go_wp2_with fail
  generalize (w.alloc (.cells #[.slice none 0 0] 28)).alloc (.cells #[.int .i64 0] 29) = W at *
  refine (plan_ok n W h1 h2).mono ?_
  rintro e w1 ⟨rfl, hB1⟩
  have hx1 := Rdv.below (Rdv.below hx hB0) (hB1.mono (Nat.le_refl _))
  have HT := Lib.hid (hT0.below hB1)
  have HE := Lib.hid (hE0.below hB1)
  have HB := Lib.hid (hB0.trans (hB1.mono hB0.size))
  clear hT0 hE0 hB0 hB1 hx
  unfold LY
  simp only [ints8, List.map_cons, List.map_nil]
  have hb := Lib.hid (fun o => binary_any A n c xs (w1.alloc o) (Rdv.alloc hx1 o))
  rw [hv] at hb
  go_wp2_with (first
    | (go_at_call 45; refine (hb.out _).mono ?_; rintro e w' ⟨rfl, rfl⟩)
    | (go_at_call 44; refine (must_bad _ _).mono ?_; rintro e w' ⟨rfl, rfl⟩))
  exact split_end w _ w.heap.size (w.heap.size + 1) 3 (HT.out.alloc _) (HE.out.alloc _) (bal HB.out _) (Nat.le_refl _) (by omega) (by omega) _ rfl rfl
def SpPost (n : Nat) (xs : List Int) (w : World) (e : Ending) (w' : World) : Prop := ∃ A' c' L, e = .returned (.tuple #[.slice A' L.length c', .int .i64 0]) ∧ BL w' w.heap.size A' c' L ∧ L.map (·.xs) = segs n (List.replicate (fi n) 0 ++ xs) (bC n) ∧ Below w.heap.size w w'
set_option maxRecDepth 100000 in
set_option maxHeartbeats 1000000 in
theorem split_ok (A : Option Addr) (n c : Nat) (xs : List Int) (w : World) (hx : Rd .u8 w A n c xs) (h1 : 1 ≤ n) (h2 : n ≤ 79560) (hv : ValidB xs = true) : Calls Tryz.prog 19 #[.slice A n c] w (SpPost n xs w) := by
  have hmf : ∀ (fn : Fn) (first cap : Array Value) (w : World), (Instr.makeFunc fn first cap).run Tryz.prog w = .ok (.func fn first cap) w := fun _ _ _ _ => rfl
  have hfl := fi_lt h1 h2
  have hT0 : Blk ((w.alloc (.cells #[.slice none 0 0] 28)).alloc (.cells #[.int .i64 0] 29)) w.heap.size 28 [.slice none 0 0] := (Blk.new w [.slice none 0 0] 28 rfl).alloc _
  have hE0 : Blk ((w.alloc (.cells #[.slice none 0 0] 28)).alloc (.cells #[.int .i64 0] 29)) (w.heap.size + 1) 29 [.int .i64 0] := Blk.new _ [.int .i64 0] 29 (by simp)
  have hB0 : Below w.heap.size w ((w.alloc (.cells #[.slice none 0 0] 28)).alloc (.cells #[.int .i64 0] 29)) := ((Below.refl _ _).alloc (Nat.le_refl _) _).alloc (by simp) _
  go_enter_defers Tryz.func19, Tryz.ntmps19
  go_wp2_with fail
  generalize (w.alloc (.cells #[.slice none 0 0] 28)).alloc (.cells #[.int .i64 0] 29) = W at *
  refine (plan_ok n W h1 h2).mono ?_
  rintro e w1 ⟨rfl, hB1⟩
  have hx1 := Rdv.below (Rdv.below hx hB0) (hB1.mono (Nat.le_refl _))
  have HT := Lib.hid (hT0.below hB1)
  have HE := Lib.hid (hE0.below hB1)
  have HB := Lib.hid (hB0.trans (hB1.mono hB0.size))
  clear hT0 hE0 hB0 hB1 hx
  have hL := Blk.new w1 (ints8 (LY n)) 79 rfl
  obtain ⟨R, hR⟩ : ∃ R, R = (los n : Int) := ⟨_, rfl⟩
  unfold LY at hL ⊢
  simp only [ints8, List.map_cons, List.map_nil] at hL ⊢
  have HX := Lib.hid (Rdv.alloc hx1 (.cells #[.int .i64 n, .int .i64 (bC n : Int), .int .i64 (lo n : Int), .int .i64 (sh n : Int), .int .i64 (los n : Int), .int .i64 (shs n : Int), .int .i64 (fi n : Int)] 79))
  have HT := Lib.hid (HT.out.alloc (.cells #[.int .i64 n, .int .i64 (bC n : Int), .int .i64 (lo n : Int), .int .i64 (sh n : Int), .int .i64 (los n : Int), .int .i64 (shs n : Int), .int .i64 (fi n : Int)] 79))
  have HE := Lib.hid (HE.out.alloc (.cells #[.int .i64 n, .int .i64 (bC n : Int), .int .i64 (lo n : Int), .int .i64 (sh n : Int), .int .i64 (los n : Int), .int .i64 (shs n : Int), .int .i64 (fi n : Int)] 79))
  have HB := Lib.hid (bal HB.out (.cells #[.int .i64 n, .int .i64 (bC n : Int), .int .i64 (lo n : Int), .int .i64 (sh n : Int), .int .i64 (los n : Int), .int .i64 (shs n : Int), .int .i64 (fi n : Int)] 79))
  have hx1s := hx1.le
  clear hx1
  go_wp2_with fail
  generalize w1.alloc (.cells #[.int .i64 n, .int .i64 (bC n : Int), .int .i64 (lo n : Int), .int .i64 (sh n : Int), .int .i64 (los n : Int), .int .i64 (shs n : Int), .int .i64 (fi n : Int)] 79) = W1 at *
  generalize w1.heap.size = LB at *
  refine (binary_any A n c xs W1 HX.out).mono ?_
  rintro e w' ⟨rfl, rfl⟩
  rw [hv]
  obtain ⟨⟨c0, c1, c2, c3, c4, c5, c6⟩, -⟩ := Blk.seven hL
  have HL := Lib.hid hL
  clear hL
  go_wp2_with (first
    | (go_at_call 44; refine (must_ok _ _).mono ?_; rintro e w' ⟨rfl, rfl⟩)
    | (at_make; refine list_of rfl fun K hK => wp_mk _ _ 25 rfl el53 rfl rfl (by omega) (by unfold maxLen; omega) ?_; intro Az w2 hOz hBz hAz; have HOZ := Lib.hid hOz; have HBZ := Lib.hid hBz; clear hOz hBz; refine hK _ _ ?_; clear hK K)
    | (at_builtin; refine list_of rfl fun K hK => wp_app _ _ 25 rfl el53 rfl rfl HOZ.out (Rdv.below HX.out HBZ.out) (oneCell_ints .u8 xs) (by omega) (by unfold maxLen; omega) HBZ.out.size ?_; intro Ar cr w3 hOr hgr; have HOR := Lib.hid hOr; have HGR := Lib.hid hgr; have hB3 := HBZ.out.grown hgr HBZ.out.size (fun k hk => Ownv.ob' HOZ.out hk); have hL3 := (HL.out.below hB3).alloc (.cells #[.slice Ar (fi n + n) cr] 25); obtain ⟨⟨c0', c1', c2', c3', c4', c5', c6'⟩, -⟩ := Blk.seven hL3; have HB3 := Lib.hid hB3; clear hOr hgr hB3; refine hK _ _ ?_; clear hK K))
  have hR3 : Blk (w3.alloc (.cells #[.slice Ar (fi n + n) cr] 25)) w3.heap.size 25 [.slice Ar (fi n + n) cr] := Blk.new w3 [.slice Ar (fi n + n) cr] 25 rfl
  have hO3 : Own .u8 5 (w3.alloc (.cells #[.slice Ar (fi n + n) cr] 25)) W1.heap.size Ar (fi n + n) cr (List.replicate (fi n) 0 ++ xs) := Own.of_eq (HOR.out.alloc _) rfl (by rw [List.map_append, List.map_replicate])
  have hAR : Ar ≠ none → blk Ar ≠ w3.heap.size := fun hA => Nat.ne_of_lt (Ownv.blk_of HOR.out hA).2
  have hvz : ValidB (List.replicate (fi n) 0 ++ xs) = true := by
    unfold ValidB at *
    rw [List.all_append, hv]; simp
  have HT4 := Lib.hid (Blk.alloc (HT.out.below HB3.out) (.cells #[.slice Ar (fi n + n) cr] 25))
  have HE4 := Lib.hid (Blk.alloc (HE.out.below HB3.out) (.cells #[.slice Ar (fi n + n) cr] 25))
  have HB4 := Lib.hid (bal (HB.out.trans (HB3.out.mono HB.out.size)) (.cells #[.slice Ar (fi n + n) cr] 25))
  have htlt := HT.out.lt
  have helt := HE.out.lt
  have hs3 := HB3.out.size
  have hs4 : w3.heap.size < (w3.alloc (.cells #[.slice Ar (fi n + n) cr] 25)).heap.size := by simp
  have hws := HB.out.size
  generalize w3.alloc (.cells #[.slice Ar (fi n + n) cr] 25) = W4 at *
  clear c0 c1 c2 c3 c4 c5 c6 c0' c1' c2' c3' c4' c5' c6'
  refine (built_any n LB w3.heap.size Ar (fi n + n) cr _ W4 h1 h2 (by omega) hL3 hR3 (Own.rd hO3) hAR hvz).mono ?_
  rintro e w5 ⟨A', c', L, rfl, hBL, hxs, hG5⟩
  have hT5 := HT4.out.grown hG5 (fun he => by have := Option.some.inj he; omega)
  have hE5 := HE4.out.grown hG5 (fun he => by have := Option.some.inj he; omega)
  have HB5 := Lib.hid (HB4.out.grown hG5 HB4.out.size (fun k hk => by cases hk; omega))
  have HBL := Lib.hid hBL
  have HXS := Lib.hid hxs
  clear hBL hxs hL3 hR3 hO3 hAR hG5
  obtain ⟨TB, hTB⟩ : ∃ TB, TB = w.heap.size := ⟨_, rfl⟩
  obtain ⟨EB, hEB⟩ : ∃ EB, EB = w.heap.size + 1 := ⟨_, rfl⟩
  rw [← hEB] at hE5 ⊢
  rw [← hTB] at hT5 ⊢
  have hne : TB ≠ EB := by omega
  have hne' : EB ≠ TB := by omega
  have hT0 : w.heap.size ≤ TB := by omega
  have hE0 : w.heap.size ≤ EB := by omega
  have hT4 : TB < W4.heap.size := by omega
  have hE4 : EB < W4.heap.size := by omega
  clear hTB hEB
  have t0 := hT5.cell (j := 0) rfl
  have t1 := hT5.frozen 0
  have e0 := hE5.cell (j := 0) rfl
  have e1 := hE5.frozen 0
  go_wp2
  have hT6 := (hT5.set 0 (.slice A' L.length c')).other (g := EB) hne' 0 (.int .i64 0)
  have hE6 := (hE5.other (g := TB) hne 0 (.slice A' L.length c')).set 0 (.int .i64 0)
  have hBL6 := (HBL.out.grownL hT4 (grownBy_set w5 TB 0 (.slice A' L.length c'))).grownL hE4 (grownBy_set _ EB 0 (.int .i64 0))
  have hB6 := (HB5.out.setCell (p := ⟨TB, 0, none⟩) hT0 (.slice A' L.length c')).setCell (p := ⟨EB, 0, none⟩) hE0 (.int .i64 0)
  have HT6 := Lib.hid hT6
  have HE6 := Lib.hid hE6
  have HBL6 := Lib.hid (hBL6.mono (base' := w.heap.size) (by omega))
  have HB6 := Lib.hid hB6
  clear hT6 hE6 hBL6 hB6 t0 t1 e0 e1 hT5 hE5
  generalize (w5.setCell ⟨TB, 0, none⟩ (.slice A' L.length c')).setCell ⟨EB, 0, none⟩ (.int .i64 0) = W6 at *
  refine leaves_cons (f := 41) (args := #[.pointer (some ⟨EB, 0, none⟩), .func (.func 42) #[] #[.pointer (some ⟨TB, 0, none⟩)]]) (by simp) (by simp [go_sem]) ?_
  refine (caught_idle ⟨EB, 0, none⟩ _ _).mono ?_
  rintro e u' w'' ⟨rfl, rfl, rfl⟩
  have l1 := lv55 (HT6.out.cell (j := 0) rfl)
  have l2 := lv24 (HE6.out.cell (j := 0) rfl)
  simp [Leaves, settle, results, Tryz.results19, asAddr, l1, l2, Sem.run_bind, Result.andThen]
  exact ⟨A', c', L, rfl, HBL6.out, HXS.out, HB6.out⟩
end Go.Proofs.YtcbbkflnenkpgaaGreat

namespace Go.Proofs.YtcbbkflnenkpgaaGreat
open Go.RowKit CM
set_option linter.unusedVariables false
set_option maxRecDepth 100000 in
set_option maxHeartbeats 400000 in
theorem right_any (A : Option Addr) (n c : Nat) (xs : List Int) (w : World) (h : Rd .u8 w A n c xs) :
    Calls Tryz.prog 100 #[.slice A n c] w fun e w' => e = .returned (.bool (ValidB xs)) ∧ w = w' := by
  have hbd := h.bd.1
  go_enter Tryz.func100, Tryz.ntmps100
  go_wp2
  go_loop [3] (fun i => IdxInv n xs i) (fun i => n - (intOf i).toNat)
  case atStart => exact ⟨0, by omega, rfl, by intro q hq; omega⟩
  case round =>
    obtain ⟨j, hj, rfl, hv⟩ := hrel
    by_cases hlt : j < n
    · have hc := Rd.cell h hlt
      have hix := fun W => Rdv.ix h el53 hlt .i64 W
      have HV := Lib.hid hv; clear hv
      by_cases h1 : gi xs j ≤ 1
      · have h1' : decide (1 < gi xs j) = false := by simp; omega
        go_wp2
        go_round
        case rel => exact ⟨j + 1, by omega, by go_num, fun q hq => lt_succ_cases HV.out h1 q hq⟩
        case measure => simp [intOf]; omega
      · have h1' : decide (1 < gi xs j) = true := by simp; omega
        have hf := Lib.hid (validB_f (by rw [h.len]; exact hlt) (by omega : 1 < gi xs j))
        go_wp2
        go_ret
        exact ⟨ret_bool hf.out.symm, rfl⟩
    · have hf := Lib.hid (validB_t (xs := xs) (by rw [h.len]; intro q hq; exact hv q (by omega)))
      go_wp2
      go_ret
      exact ⟨ret_bool hf.out.symm, rfl⟩
def padB (xs : List Int) : List Bool := bl xs ++ List.replicate 24 false
def remB (xs : List Int) (i : Nat) : Nat := dvr 24 0x800063 0 ((padB xs).take i)
theorem padB_len (xs : List Int) : (padB xs).length = xs.length + 24 := by simp [padB, bit_len]
theorem remB_lt (xs : List Int) (i : Nat) : remB xs i < 16777216 := dvr_lt (L := 24) (p := 0x800063) (by decide) (by decide) _ _ (by decide)
theorem remB_succ (xs : List Int) (i : Nat) (h : i < xs.length + 24) : remB xs (i + 1) = dv 24 0x800063 (remB xs i) ((padB xs).getD i false) := by
  unfold remB
  rw [List.take_succ_eq_append_getElem (by rw [padB_len]; exact h), dvr_snoc]
  congr 1
  simp [List.getD, padB_len, h]
theorem i64_xor_nat (a b : Nat) (ha : a < 4611686018427387904) (hb : b < 4611686018427387904) : bits .xor .i64 (a : Int) (b : Int) = ((a ^^^ b : Nat) : Int) := by
  have hx : a ^^^ b < 2 ^ 62 := Nat.xor_lt_two_pow (by omega) (by omega)
  have e : ∀ c : Nat, c < 4611686018427387904 → (BitVec.ofInt 64 (c : Int)).toNat = c := fun c hc => by
    rw [BitVec.ofInt_natCast, BitVec.toNat_ofNat]; exact Nat.mod_eq_of_lt (by omega)
  show IntKind.i64.wrap ((BitVec.ofInt 64 (a : Int) ^^^ BitVec.ofInt 64 (b : Int)).toNat : Int) = _
  rw [BitVec.toNat_xor, e a ha, e b hb, IntKind.wrap_i64]
  omega
theorem dv_val (r : Nat) (b : Bool) : dv 24 0x800063 r b = if 16777216 ≤ 2 * r + b.toNat then (2 * r + b.toNat) ^^^ 25165923 else 2 * r + b.toNat := rfl
theorem pad_lo (xs : List Int) (i : Nat) (h : i < xs.length) : (padB xs).getD i false = decide (gi xs i = 1) := by
  unfold padB
  rw [List.getD_eq_getElem?_getD, List.getElem?_append_left (by rw [bit_len]; exact h), ← List.getD_eq_getElem?_getD, bl_getD]
theorem pad_hi (xs : List Int) (i : Nat) (h : xs.length ≤ i) : (padB xs).getD i false = false := by
  unfold padB
  rw [List.getD_eq_getElem?_getD, List.getElem?_append_right (by rw [bit_len]; exact h)]
  rw [List.getElem?_replicate]; split <;> rfl
def CkInv (n : Nat) (xs : List Int) (r i : Value) : Prop := ∃ j : Nat, j ≤ n + 24 ∧ i = .int .i64 j ∧ r = .int .i64 (remB xs j : Int)
theorem bit_val (R k : Nat) : ((R : Int) / 2 ^ k).tmod 2 % 256 = ib (R.testBit k) := by
  have e : (R : Int) / 2 ^ k = ((R / 2 ^ k : Nat) : Int) := by simp
  rw [e, Nat.testBit_eq_decide_div_mod_eq]
  generalize R / 2 ^ k = q
  rw [Int.tmod_eq_emod_of_nonneg (Int.natCast_nonneg _)]
  rcases Nat.mod_two_eq_zero_or_one q with h | h
  · rw [h]; simp [ib]; omega
  · rw [h]; simp [ib]; omega
def Ck2 (w : World) (R : Nat) (out i : Value) (wr : World) : Prop := ∃ (j : Nat) (A : Option Addr) (c : Nat), j ≤ 24 ∧ i = .int .i64 (23 - (j : Int)) ∧ out = .slice A j c ∧ Own .u8 5 wr w.heap.size A j c (((bitsOf 24 R).map ib).take j) ∧ Below w.heap.size w wr
set_option maxRecDepth 100000 in
set_option maxHeartbeats 1000000 in
theorem rchk_any (A : Option Addr) (n c : Nat) (xs : List Int) (w : World) (h : Rd .u8 w A n c xs) (hb : Bit xs) (hn : n ≤ 100000) :
    Calls Tryz.prog 101 #[.slice A n c] w fun e w' => ∃ A' c', e = .returned (.slice A' 24 c') ∧ Own .u8 5 w' w.heap.size A' 24 c' (crcSum 2 xs) ∧ Below w.heap.size w w' := by
  have hl := h.len
  have HL := Lib.hid hl
  have HSUM := Lib.hid (show (bitsOf 24 (remB xs (n + 24))).map ib = crcSum 2 xs by
    have h1 := dvr_sum (bl xs)
    rw [ib_bl hb] at h1
    rw [← h1]; unfold remB padB
    rw [List.take_of_length_le (by simp [bit_len, hl])])
  clear hl
  go_enter Tryz.func101, Tryz.ntmps101
  go_wp2
  go_loop [3, 4] (fun r i => CkInv n xs r i) (fun _ i => n + 24 - (intOf i).toNat)
  case atStart => exact ⟨0, by omega, rfl, by simp [remB, dvr]⟩
  case round =>
    obtain ⟨j, hj, rfl, rfl⟩ := hrel
    by_cases hlt : j < n + 24
    · have hlt2 := remB_lt xs j
      have hs := remB_succ xs j (by rw [HL.out]; exact hlt)
      rw [dv_val] at hs
      have HJ := Lib.hid (remB_lt xs (j + 1))
      by_cases hjn : j < n
      · rw [pad_lo xs j (by rw [HL.out]; exact hjn)] at hs
        have hc := Rd.cell h hjn
        have hix := fun W => Rdv.ix h el53 hjn .i64 W
        rcases hb (gi xs j) (gi_mem xs j (by rw [HL.out]; exact hjn)) with hg | hg
        · rw [hg] at hs hc
          clear hg
          simp only [show decide ((0 : Int) = 1) = false from rfl, Bool.toNat_false, Nat.add_zero] at hs
          obtain ⟨T, hT⟩ : ∃ T, T = 2 * remB xs j := ⟨_, rfl⟩
          rw [← hT] at hs
          have hTl : T < 33554432 := by omega
          have hm : wrap64 (2 * (remB xs j : Int)) = T := by unfold wrap64; omega
          have hw : wrap64 (T : Int) = T := by unfold wrap64; omega
          have hw1 : wrap64 ((T : Int) + 1) = T + 1 := by unfold wrap64; omega
          have HTL := Lib.hid hTl
          clear hT hlt2
          by_cases hge : 16777216 ≤ T
          · rw [if_pos hge] at hs
            have hx := i64_xor_nat (T) 25165923 (by omega) (by decide)
            rw [← hs] at hx
            have hx : bits .xor .i64 ((T : Int)) 25165923 = (remB xs (j + 1) : Int) := by rw [← hx]; rfl
            clear hs
            generalize hR1 : remB xs (j + 1) = R1 at *
            generalize hR0 : remB xs j = R0 at *
            have HR1 := Lib.hid hR1
            clear hR1 hR0 HJ
            have a2 : decide ((16777216 : Int) ≤ (T : Int)) = true := by simp; omega
            clear hge hTl
            go_wp2
            go_round
            case rel => exact ⟨j + 1, by omega, by go_num, by rw [HR1.out]⟩
            case measure => simp [intOf]; omega
          · rw [if_neg hge] at hs
            have HS := Lib.hid hs
            clear hs
            generalize hR0 : remB xs j = R0 at *
            clear hR0 HJ
            have a2 : decide ((16777216 : Int) ≤ (T : Int)) = false := by simp; omega
            clear hge hTl
            go_wp2
            go_round
            case rel => exact ⟨j + 1, by omega, by go_num, by rw [HS.out]; go_num⟩
            case measure => simp [intOf]; omega
        · rw [hg] at hs hc
          clear hg
          rw [show decide ((1 : Int) = 1) = true from rfl, Bool.toNat_true] at hs
          obtain ⟨T, hT⟩ : ∃ T, T = 2 * remB xs j := ⟨_, rfl⟩
          rw [← hT] at hs
          have hTl : T < 33554432 := by omega
          have hm : wrap64 (2 * (remB xs j : Int)) = T := by unfold wrap64; omega
          have hw : wrap64 (T : Int) = T := by unfold wrap64; omega
          have hw1 : wrap64 ((T : Int) + 1) = T + 1 := by unfold wrap64; omega
          have HTL := Lib.hid hTl
          clear hT hlt2
          by_cases hge : 16777216 ≤ T + 1
          · rw [if_pos hge] at hs
            have hx := i64_xor_nat (T + 1) 25165923 (by omega) (by decide)
            rw [← hs] at hx
            have hx : bits .xor .i64 ((T : Int) + 1) 25165923 = (remB xs (j + 1) : Int) := by rw [← hx]; rfl
            clear hs
            generalize hR1 : remB xs (j + 1) = R1 at *
            generalize hR0 : remB xs j = R0 at *
            have HR1 := Lib.hid hR1
            clear hR1 hR0 HJ
            have a2 : decide ((16777216 : Int) ≤ (T : Int) + 1) = true := by simp; omega
            clear hge hTl
            go_wp2
            go_round
            case rel => exact ⟨j + 1, by omega, by go_num, by rw [HR1.out]⟩
            case measure => simp [intOf]; omega
          · rw [if_neg hge] at hs
            have HS := Lib.hid hs
            clear hs
            generalize hR0 : remB xs j = R0 at *
            clear hR0 HJ
            have a2 : decide ((16777216 : Int) ≤ (T : Int) + 1) = false := by simp; omega
            clear hge hTl
            go_wp2
            go_round
            case rel => exact ⟨j + 1, by omega, by go_num, by rw [HS.out]; go_num⟩
            case measure => simp [intOf]; omega
      · rw [pad_hi xs j (by rw [HL.out]; omega)] at hs
        simp only [Bool.toNat_false, Nat.add_zero] at hs
        obtain ⟨T, hT⟩ : ∃ T, T = 2 * remB xs j := ⟨_, rfl⟩
        rw [← hT] at hs
        have hTl : T < 33554432 := by omega
        have hm : wrap64 (2 * (remB xs j : Int)) = T := by unfold wrap64; omega
        have hw : wrap64 (T : Int) = T := by unfold wrap64; omega
        have hw1 : wrap64 ((T : Int) + 1) = T + 1 := by unfold wrap64; omega
        have HTL := Lib.hid hTl
        clear hT hlt2
        by_cases hge : 16777216 ≤ T
        · rw [if_pos hge] at hs
          have hx := i64_xor_nat (T) 25165923 (by omega) (by decide)
          rw [← hs] at hx
          have hx : bits .xor .i64 ((T : Int)) 25165923 = (remB xs (j + 1) : Int) := by rw [← hx]; rfl
          clear hs
          generalize hR1 : remB xs (j + 1) = R1 at *
          generalize hR0 : remB xs j = R0 at *
          have HR1 := Lib.hid hR1
          clear hR1 hR0 HJ
          have a2 : decide ((16777216 : Int) ≤ (T : Int)) = true := by simp; omega
          clear hge hTl
          go_wp2
          go_round
          case rel => exact ⟨j + 1, by omega, by go_num, by rw [HR1.out]⟩
          case measure => simp [intOf]; omega
        · rw [if_neg hge] at hs
          have HS := Lib.hid hs
          clear hs
          generalize hR0 : remB xs j = R0 at *
          clear hR0 HJ
          have a2 : decide ((16777216 : Int) ≤ (T : Int)) = false := by simp; omega
          clear hge hTl
          go_wp2
          go_round
          case rel => exact ⟨j + 1, by omega, by go_num, by rw [HS.out]; go_num⟩
          case measure => simp [intOf]; omega
    · obtain rfl : j = n + 24 := by omega
      have hRl := remB_lt xs (n + 24)
      obtain ⟨R, hR⟩ : ∃ R, R = remB xs (n + 24) := ⟨_, rfl⟩
      rw [← hR] at hRl HSUM ⊢
      have HR := Lib.hid hRl
      clear hR hRl
      go_wp2
      go_loopw [6, 7] (fun out i wr => Ck2 w R out i wr) (fun _ i _ => (intOf i + 1).toNat)
      case atStart => exact ⟨0, none, 0, by omega, by go_num, rfl, Ownv.nilv 5 w _, Below.refl _ _⟩
      case round =>
        obtain ⟨j, A1, c1, hj, rfl, rfl, hO, hB⟩ := hrel
        have HO := Lib.hid hO
        have HB := Lib.hid hB
        clear hO hB
        by_cases hlt : j < 24
        · go_wp2_with (at_builtin; refine list_of rfl fun K hK => wp_app1 _ _ 25 rfl el53 rfl (.int .u8 _) rfl rfl HO.out (by omega) (by omega) HB.out.size ?_; intro A' c' w' hO' hg; have HO' := Lib.hid hO'; have HG := Lib.hid hg; clear hO' hg; refine hK _ _ ?_; clear hK K)
          have hbit := bit_val R (23 - j)
          have hget : ((bitsOf 24 R).map ib)[j]? = some (ib (R.testBit (23 - j))) := by
            rw [List.getElem?_map]; simp [bitsOf, hlt]
          go_roundw
          case rel => exact ⟨j + 1, A', c', by omega, by rw [show ((j + 1 : Nat) : Int) = (j : Int) + 1 by omega, show (23 : Int) - ((j : Int) + 1) = 23 - j - 1 by omega], rfl, Own.of_eq HO'.out rfl (by rw [List.take_add_one, hget, List.map_append, hbit]; rfl), HB.out.grown HG.out HB.out.size (fun k hk => Ownv.ob' HO.out hk)⟩
          case measure => simp [intOf]; omega
        · obtain rfl : j = 24 := by omega
          go_wp2
          go_ret
          exact ⟨A1, c1, rfl, by have := HO.out; rw [List.take_of_length_le (by simp [bitsOf_len]), HSUM.out] at this; exact this, HB.out⟩
end Go.Proofs.YtcbbkflnenkpgaaGreat

namespace Go.Proofs.YtcbbkflnenkpgaaGreat
open Go.RowKit CM
set_option linter.unusedVariables false
theorem Rdv.slI {w : World} {A : Option Addr} {n c : Nat} {vs : List Value} {P : Program} (h : Rdv w A n c vs) {t e : TypeId} {z : Value} {bytes : Nat} (E : El P t e z bytes) (kl kh : IntKind) {l m : Nat} (hlm : l ≤ m) (hm : m ≤ c) (L M : Int) (hL : L = (l : Int)) (hM : M = (m : Int)) (W : World) :
    (Instr.sliceAt t (.slice A n c) (some (.int kl L)) (some (.int kh M)) none).run P W = .ok (.slice (cut A c l) (m - l) (c - l)) W := by
  subst hL hM; exact h.sl E kl kh hlm hm W
theorem full_zero {f m : Nat} {xs : List Int} (h : f ≤ m) : ((List.replicate f 0 ++ xs).drop 0).take m = List.replicate f 0 ++ (xs.take (m - f)) := by
  rw [List.drop_zero, List.take_append, List.length_replicate, List.take_of_length_le (by simp; exact h)]
theorem full_succ {f o m : Nat} {xs : List Int} (h : f ≤ o) : ((List.replicate f 0 ++ xs).drop o).take m = (xs.drop (o - f)).take m := by
  rw [List.drop_append, List.length_replicate, List.drop_of_length_le (by simp; exact h), List.nil_append]
def RbInv (W : World) (b LB : Nat) (lay full : List Int) (out at_ i : Value) (wr : World) : Prop :=
  ∃ (j a : Nat) (A : Option Addr) (c : Nat) (L : List Sv), j ≤ bC b ∧ i = .int .i64 j ∧ at_ = .int .i64 a ∧ a = off b j - fi b ∧ out = .slice A L.length c ∧ BL wr W.heap.size A c L ∧ L.length = j ∧ L.map (·.xs) = segs b full j ∧ Below W.heap.size W wr
def RsPost (b : Nat) (xs : List Int) (w : World) (e : Ending) (w' : World) : Prop := ∃ A' c' L, e = .returned (.tuple #[.slice A' L.length c', .int .i64 0]) ∧ BL w' w.heap.size A' c' L ∧ L.map (·.xs) = segs b (List.replicate (fi b) 0 ++ xs) (bC b) ∧ Below w.heap.size w w'
theorem bit_drop {xs : List Int} (n : Nat) (hx : Bit xs) : Bit (xs.drop n) := fun x h => hx x (List.mem_of_mem_drop h)
set_option maxRecDepth 100000 in
set_option maxHeartbeats 1000000 in
theorem rsplit_ok (A : Option Addr) (n c : Nat) (xs : List Int) (w : World) (hx : Rd .u8 w A n c xs) (h1 : 1 ≤ n) (h2 : n ≤ 79560) (hb : Bit xs) : Calls Tryz.prog 57 #[.slice A n c] w (RsPost n xs w) := by
  have hv := bit_valid hb
  have hC := bC_le h2
  have hfl := fi_lt h1 h2
  have hxl := hx.len
  have hoff := off_all h1
  have hcm := Rdv.le hx
  have HPL := Lib.hid (fun W => rplan_ok n W h1 h2)
  have HEA := Lib.hid (fun W => reach_ok n W h1 h2)
  have HLY := Lib.hid (show LY n = [(n : Int), (bC n : Int), (lo n : Int), (sh n : Int), (los n : Int), (shs n : Int), (fi n : Int)] from rfl)
  unfold RpPost at HPL
  rw [HLY.out] at HPL
  simp only [ints8, List.map_cons, List.map_nil] at HPL
  go_enter Tryz.func57, Tryz.ntmps57
  go_wp2_with (first | (go_at_call 76; refine (HPL.out _).mono ?_; rintro e w1 ⟨rfl, hB1⟩; have hx1 := Rdv.below hx hB1; have HB1 := Lib.hid hB1; clear hB1))
  have hb74 := Lib.hid (fun o => right_any A n c xs (w1.alloc o) (Rdv.alloc hx1 o))
  rw [hv] at hb74
  refine (hb74.out _).mono ?_
  rintro e w' ⟨rfl, rfl⟩
  have hL := Blk.new w1 (ints8 [(n : Int), (bC n : Int), (lo n : Int), (sh n : Int), (los n : Int), (shs n : Int), (fi n : Int)]) 51 rfl
  have hX2 := Rdv.alloc hx1 (.cells (ints8 [(n : Int), (bC n : Int), (lo n : Int), (sh n : Int), (los n : Int), (shs n : Int), (fi n : Int)]).toArray 51)
  have hB2 := bal HB1.out (.cells (ints8 [(n : Int), (bC n : Int), (lo n : Int), (sh n : Int), (los n : Int), (shs n : Int), (fi n : Int)]).toArray 51)
  simp only [ints8, List.map_cons, List.map_nil] at hL hX2 hB2
  have HL := Lib.hid hL
  have HX2 := Lib.hid hX2
  have HB2 := Lib.hid hB2
  clear hL hX2 hB2 hx hx1 HB1 hb74
  go_wp2_with (go_at_call 73; refine (HEA.out _).mono ?_; rintro e w3 ⟨As, cs, rfl, hOs, hB3⟩)
  generalize w1.alloc (.cells #[.int .i64 n, .int .i64 (bC n : Int), .int .i64 (lo n : Int), .int .i64 (sh n : Int), .int .i64 (los n : Int), .int .i64 (shs n : Int), .int .i64 (fi n : Int)] 51) = W2 at *
  generalize w1.heap.size = LB at *
  have HL3 := Lib.hid (HL.out.below hB3)
  have HX3 := Lib.hid (Rdv.below HX2.out hB3)
  have HB3 := Lib.hid (HB2.out.trans (hB3.mono HB2.out.size))
  have HS3 := Lib.hid (Own.rd hOs)
  clear hOs hB3 HL HX2 HB2
  go_loopw [7, 8, 9] (fun out a i wr => RbInv w3 n LB (LY n) (List.replicate (fi n) 0 ++ xs) out a i wr) (fun _ _ i _ => bC n - (intOf i).toNat)
  case atStart => exact ⟨0, 0, none, 0, [], by omega, rfl, rfl, by simp [off], rfl, BL.nil w3 _, rfl, rfl, Below.refl _ _⟩
  case round =>
    obtain ⟨j, a, A1, c1, L, hj, rfl, rfl, ha, rfl, hBL, hlen, hxs, hB⟩ := hrel
    have HBL := Lib.hid hBL
    have HX := Lib.hid hxs
    have HB := Lib.hid hB
    have HLN := Lib.hid hlen
    have HAE := Lib.hid ha
    obtain ⟨⟨c0, c1', c2, c3, c4, c5, c6⟩, -⟩ := Blk.seven (HL3.out.below HB.out)
    clear hBL hxs hB hlen ha
    by_cases hlt : j < bC n
    · have hsz := (sz_ge (i := j) h1)
      have hix := fun W => Rdv.ix (Rdv.below HS3.out HB.out) el34 hlt .i64 W
      have hcz := Rd.cell (Rdv.below HS3.out HB.out) hlt
      rw [gi_szs _ _ _ hlt] at hcz
      by_cases hq : n ≤ 6144
      · have e1 := bC_one hq
        have ek : ck n = 0 := by unfold ck; rw [if_pos hq]
        obtain rfl : j = 0 := by omega
        obtain ⟨N, hN⟩ : ∃ N, N + ck n + fi n = sz n 0 := ⟨sz n 0 - ck n - fi n, by have := hsz.1; simp only [if_true] at this; omega⟩
        have hN1 : 1 ≤ N := by have := hsz.1; simp only [if_true] at this; omega
        have hst : off n (0 + 1) = off n 0 + (sz n 0 - ck n) := rfl
        have hmo := off_le (b := n) (show 0 + 1 ≤ bC n by omega)
        have ha0 : a = 0 := by rw [HAE.out]; simp [off]
        have hof0 : off n 0 = 0 := rfl
        have haN : a + N ≤ n := by omega
        have hdat : ((List.replicate (fi n) 0 ++ xs).drop (off n 0)).take (sz n 0 - ck n) = List.replicate (fi n) 0 ++ (xs.drop a).take N := by
          rw [ha0, List.drop_zero, hof0, full_zero (by omega)]; congr 2; omega
        have haS : a + N = off n (0 + 1) - fi n := by omega
        have hNI : (sz n 0 : Int) - (fi n : Int) = (N : Int) := by omega
        have hdc : decide ((1 : Int) < (bC n : Int)) = false := by simp; omega
        have hsl : ∀ W, (Instr.sliceAt 25 (.slice A n c) (some (.int .i64 (a : Int))) (some (.int .i64 ((a : Int) + N))) none).run Tryz.prog W = .ok (.slice (cut A c a) N (c - a)) W := fun W => by
          have := Rdv.slI HX3.out el53 .i64 .i64 (l := a) (m := a + N) (by omega) (by omega) (a : Int) ((a : Int) + N) rfl (by omega) W
          rwa [Nat.add_sub_cancel_left] at this
        have hRx : Rd .u8 w3 (cut A c a) N (c - a) ((xs.drop a).take N) := by
          have := Rd.cut_ HX3.out (l := a) (m := a + N) (by omega) haN
          rwa [Nat.add_sub_cancel_left, List.drop_take, Nat.add_sub_cancel_left] at this
        have hNl : N ≤ 6144 := by omega
        have HRX := Lib.hid hRx
        have HDAT := Lib.hid hdat
        have HAS := Lib.hid haS
        have hszl := hsz.2
        have hll : L.length < 20 := by rw [HLN.out]; omega
        clear hdat hRx haS hst hmo hsz ha0
        have E1 := Lib.hid e1
        clear e1
        clear hof0
        rw [show ((0 : Nat) : Int) = 0 from rfl]
        rw [show ((0 : Nat) : Int) = 0 from rfl] at hix
        have HBT := Lib.hid (show Bit (List.replicate (fi n) 0 ++ (xs.drop a).take N) from bit_app (bit_zeros _) (bit_take _ (bit_drop _ hb)))
        go_wp2_with (first
          | (at_make; refine list_of rfl fun K hK => wp_mk _ _ 25 rfl el53 rfl rfl (by omega) (by unfold maxLen; omega) ?_; intro Az w4 hOz hBz hAz; have HOZ := Lib.hid hOz; have HBZ := Lib.hid hBz; have hcz := Rd.cell (Rdv.below HS3.out (HB.out.trans (hBz.mono HB.out.size))) hlt; rw [gi_szs _ _ _ hlt] at hcz; obtain ⟨⟨c0, c1', c2, c3, c4, c5, c6⟩, -⟩ := Blk.seven (HL3.out.below (HB.out.trans (hBz.mono HB.out.size))); clear hOz hBz; refine hK _ _ ?_; clear hK K)
          | (at_builtin; refine list_of rfl fun K hK => wp_app (base := wr.heap.size) (.tmp 50) (.tmp 56) 25 rfl el53 rfl rfl HOZ.out (Rdv.below HRX.out (HB.out.trans (HBZ.out.mono HB.out.size))) (oneCell_ints .u8 _) (by omega) (by unfold maxLen; omega) HBZ.out.size ?_; intro A5 c5x w5 hO5 hg5; have HB5 := Lib.hid (HBZ.out.grown hg5 HBZ.out.size (fun k hk => Ownv.ob' HOZ.out hk)); have HO5 := Lib.hid (Own.of_eq (k := .u8) (xs := List.replicate (fi n) 0 ++ (xs.drop a).take N) hO5 (n' := fi n + N) rfl (by simp)); clear hO5 hg5; obtain ⟨⟨c0, c1', c2, c3, c4, c5, c6⟩, -⟩ := Blk.seven (HL3.out.below (HB.out.trans (HB5.out.mono HB.out.size))); refine hK _ _ ?_; clear hK K)
          | (at_builtin; refine list_of rfl fun K hK => wp_app1 (w := w5) (base := w3.heap.size) (.tmp 68) (.tmp 70) 28 rfl el55 rfl (.slice A5 (fi n + N) c5x) rfl rfl (HBL.out.below HB5.out).o (by omega) (by omega) (Nat.le_trans HB.out.size HB5.out.size) ?_; intro A8 c8x w8 hO8 hg8; have HO8 := Lib.hid hO8; have HG8 := Lib.hid hg8; clear hO8 hg8; refine hK _ _ ?_; clear hK K))
        have hseg : segB n (((List.replicate (fi n) 0 ++ xs).drop (off n 0)).take (sz n 0 - ck n)) = List.replicate (fi n) 0 ++ (xs.drop a).take N := by
          rw [HDAT.out]; unfold segB; rw [if_pos hq]
        have hA5 : A5 ≠ none := own_some HO5.out (q := 0) (by omega)
        have hge := (Ownv.blk_of HO5.out hA5).1
        have hBL2 : BL w8 w3.heap.size A8 c8x (L ++ [(⟨A5, fi n + N, c5x, List.replicate (fi n) 0 ++ (xs.drop a).take N⟩ : Sv)]) :=
          BL.push (HBL.out.below HB5.out) (s := (⟨A5, fi n + N, c5x, List.replicate (fi n) 0 ++ (xs.drop a).take N⟩ : Sv)) (Ownv.mono HO5.out HB.out.size) hA5 (fun t ht => by have h8 := (Ownv.blk_of (HBL.out.r t ht).1 (HBL.out.r t ht).2).2; exact Nat.ne_of_lt (Nat.lt_of_lt_of_le h8 hge)) HO8.out HG8.out
        have hB8 : Below w3.heap.size w3 w8 := (HB.out.trans (HB5.out.mono HB.out.size)).grown HG8.out (Nat.le_trans HB.out.size HB5.out.size) (fun k hk => Ownv.ob' (HBL.out.below HB5.out).o hk)
        go_roundw
        case rel => exact ⟨0 + 1, a + N, A8, c8x, L ++ [(⟨A5, fi n + N, c5x, List.replicate (fi n) 0 ++ (xs.drop a).take N⟩ : Sv)], by omega, by first | rfl | go_num, by go_num, HAS.out, by simp, hBL2, by simp [HLN.out], by rw [List.map_append, HX.out, segs_succ, hseg]; rfl, hB8⟩
        case measure => simp [intOf]; omega
      · have e1 := bC_two hq
        have ek : ck n = 24 := by unfold ck; rw [if_neg hq]
        by_cases hj0 : j = 0
        · subst hj0
          obtain ⟨N, hN⟩ : ∃ N, N + ck n + fi n = sz n 0 := ⟨sz n 0 - ck n - fi n, by have := hsz.1; simp only [if_true] at this; omega⟩
          have hN1 : 1 ≤ N := by have := hsz.1; simp only [if_true] at this; omega
          have hst : off n (0 + 1) = off n 0 + (sz n 0 - ck n) := rfl
          have hmo := off_le (b := n) (show 0 + 1 ≤ bC n by omega)
          have ha0 : a = 0 := by rw [HAE.out]; simp [off]
          have hof0 : off n 0 = 0 := rfl
          have haN : a + N ≤ n := by omega
          have hdat : ((List.replicate (fi n) 0 ++ xs).drop (off n 0)).take (sz n 0 - ck n) = List.replicate (fi n) 0 ++ (xs.drop a).take N := by
            rw [ha0, List.drop_zero, hof0, full_zero (by omega)]; congr 2; omega
          have haS : a + N = off n (0 + 1) - fi n := by omega
          have hNI : (sz n 0 : Int) - (fi n : Int) - 24 = (N : Int) := by omega
          have hNI0 : 0 ≤ (sz n 0 : Int) - (fi n : Int) ∧ (sz n 0 : Int) - (fi n : Int) ≤ 6144 := by omega
          have hdc : decide ((1 : Int) < (bC n : Int)) = true := by simp; omega
          have hsl : ∀ W, (Instr.sliceAt 25 (.slice A n c) (some (.int .i64 (a : Int))) (some (.int .i64 ((a : Int) + N))) none).run Tryz.prog W = .ok (.slice (cut A c a) N (c - a)) W := fun W => by
            have := Rdv.slI HX3.out el53 .i64 .i64 (l := a) (m := a + N) (by omega) (by omega) (a : Int) ((a : Int) + N) rfl (by omega) W
            rwa [Nat.add_sub_cancel_left] at this
          have hRx : Rd .u8 w3 (cut A c a) N (c - a) ((xs.drop a).take N) := by
            have := Rd.cut_ HX3.out (l := a) (m := a + N) (by omega) haN
            rwa [Nat.add_sub_cancel_left, List.drop_take, Nat.add_sub_cancel_left] at this
          have hNl : N ≤ 6144 := by omega
          have HRX := Lib.hid hRx
          have HDAT := Lib.hid hdat
          have HAS := Lib.hid haS
          have hszl := hsz.2
          have hll : L.length < 20 := by rw [HLN.out]; omega
          clear hdat hRx haS hst hmo hsz ha0
          have E1 := Lib.hid e1
          clear e1
          clear hof0
          rw [show ((0 : Nat) : Int) = 0 from rfl]
          rw [show ((0 : Nat) : Int) = 0 from rfl] at hix
          have HBT := Lib.hid (show Bit (List.replicate (fi n) 0 ++ (xs.drop a).take N) from bit_app (bit_zeros _) (bit_take _ (bit_drop _ hb)))
          go_wp2_with (first
            | (at_make; refine list_of rfl fun K hK => wp_mk _ _ 25 rfl el53 rfl rfl (by omega) (by unfold maxLen; omega) ?_; intro Az w4 hOz hBz hAz; have HOZ := Lib.hid hOz; have HBZ := Lib.hid hBz; have hcz := Rd.cell (Rdv.below HS3.out (HB.out.trans (hBz.mono HB.out.size))) hlt; rw [gi_szs _ _ _ hlt] at hcz; obtain ⟨⟨c0, c1', c2, c3, c4, c5, c6⟩, -⟩ := Blk.seven (HL3.out.below (HB.out.trans (hBz.mono HB.out.size))); clear hOz hBz; refine hK _ _ ?_; clear hK K)
            | (at_builtin; refine list_of rfl fun K hK => wp_app (base := wr.heap.size) (.tmp 50) (.tmp 56) 25 rfl el53 rfl rfl HOZ.out (Rdv.below HRX.out (HB.out.trans (HBZ.out.mono HB.out.size))) (oneCell_ints .u8 _) (by omega) (by unfold maxLen; omega) HBZ.out.size ?_; intro A5 c5x w5 hO5 hg5; have HB5 := Lib.hid (HBZ.out.grown hg5 HBZ.out.size (fun k hk => Ownv.ob' HOZ.out hk)); have HO5 := Lib.hid (Own.of_eq (k := .u8) (xs := List.replicate (fi n) 0 ++ (xs.drop a).take N) hO5 (n' := fi n + N) rfl (by simp)); clear hO5 hg5; obtain ⟨⟨c0, c1', c2, c3, c4, c5, c6⟩, -⟩ := Blk.seven (HL3.out.below (HB.out.trans (HB5.out.mono HB.out.size))); refine hK _ _ ?_; clear hK K)
            | (go_at_call 101; refine (rchk_any A5 _ c5x (List.replicate (fi n) 0 ++ (xs.drop a).take N) _ (Own.rd HO5.out) HBT.out (by omega)).mono ?_; rintro e w6 ⟨A6, c6x, rfl, hO6, hB6⟩; have HO6 := Lib.hid (Own.rd hO6); have HB6 := Lib.hid (HB5.out.trans (hB6.mono HB5.out.size)); have HO5b := Lib.hid (Ownv.below HO5.out hB6); clear hO6 hB6)
            | (at_builtin; refine list_of rfl fun K hK => wp_app (base := wr.heap.size) (.tmp 64) (.tmp 66) 25 rfl el53 rfl rfl HO5b.out HO6.out (oneCell_ints .u8 _) (by omega) (by unfold maxLen; omega) HB6.out.size ?_; intro A7 c7x w7 hO7 hg7; have HB7 := Lib.hid (HB6.out.grown hg7 HB6.out.size (fun k hk => Ownv.ob' HO5b.out hk)); have HO7 := Lib.hid (Own.of_eq (k := .u8) (xs := List.replicate (fi n) 0 ++ (xs.drop a).take N ++ crcSum 2 (List.replicate (fi n) 0 ++ (xs.drop a).take N)) hO7 (n' := fi n + N + 24) rfl (by simp)); clear hO7 hg7; refine hK _ _ ?_; clear hK K)
            | (at_builtin; refine list_of rfl fun K hK => wp_app1 (w := w7) (base := w3.heap.size) (.tmp 68) (.tmp 70) 28 rfl el55 rfl (.slice A7 (fi n + N + 24) c7x) rfl rfl (HBL.out.below HB7.out).o (by omega) (by omega) (Nat.le_trans HB.out.size HB7.out.size) ?_; intro A8 c8x w8 hO8 hg8; have HO8 := Lib.hid hO8; have HG8 := Lib.hid hg8; clear hO8 hg8; refine hK _ _ ?_; clear hK K))
          have hseg : segB n (((List.replicate (fi n) 0 ++ xs).drop (off n 0)).take (sz n 0 - ck n)) = List.replicate (fi n) 0 ++ (xs.drop a).take N ++ crcSum 2 (List.replicate (fi n) 0 ++ (xs.drop a).take N) := by
            rw [HDAT.out]; unfold segB; rw [if_neg hq]
          have hA7 : A7 ≠ none := own_some HO7.out (q := 0) (by omega)
          have hge := (Ownv.blk_of HO7.out hA7).1
          have hBL2 : BL w8 w3.heap.size A8 c8x (L ++ [(⟨A7, fi n + N + 24, c7x, List.replicate (fi n) 0 ++ (xs.drop a).take N ++ crcSum 2 (List.replicate (fi n) 0 ++ (xs.drop a).take N)⟩ : Sv)]) :=
            BL.push (HBL.out.below HB7.out) (s := (⟨A7, fi n + N + 24, c7x, List.replicate (fi n) 0 ++ (xs.drop a).take N ++ crcSum 2 (List.replicate (fi n) 0 ++ (xs.drop a).take N)⟩ : Sv)) (Ownv.mono HO7.out HB.out.size) hA7 (fun t ht => by have h8 := (Ownv.blk_of (HBL.out.r t ht).1 (HBL.out.r t ht).2).2; exact Nat.ne_of_lt (Nat.lt_of_lt_of_le h8 hge)) HO8.out HG8.out
          have hB8 : Below w3.heap.size w3 w8 := (HB.out.trans (HB7.out.mono HB.out.size)).grown HG8.out (Nat.le_trans HB.out.size HB7.out.size) (fun k hk => Ownv.ob' (HBL.out.below HB7.out).o hk)
          go_roundw
          case rel => exact ⟨0 + 1, a + N, A8, c8x, L ++ [(⟨A7, fi n + N + 24, c7x, List.replicate (fi n) 0 ++ (xs.drop a).take N ++ crcSum 2 (List.replicate (fi n) 0 ++ (xs.drop a).take N)⟩ : Sv)], by omega, by first | rfl | go_num, by go_num, HAS.out, by simp, hBL2, by simp [HLN.out], by rw [List.map_append, HX.out, segs_succ, hseg]; rfl, hB8⟩
          case measure => simp [intOf]; omega
        · have hj1 : 1 ≤ j := by omega
          obtain ⟨N, hN⟩ : ∃ N, N + ck n = sz n j := ⟨sz n j - ck n, by have := hsz.1; rw [if_neg (by omega)] at this; omega⟩
          have hN1 : 1 ≤ N := by have := hsz.1; rw [if_neg (by omega)] at this; omega
          have hst : off n (j + 1) = off n j + (sz n j - ck n) := rfl
          have hmo := off_le (b := n) (show j + 1 ≤ bC n by omega)
          have hf0 : fi n ≤ off n j := by
            have h9 := off_le (b := n) (show 1 ≤ j by omega)
            have h10 : off n 1 = 0 + (sz n 0 - ck n) := rfl
            have h11 := (sz_ge (i := 0) h1).1
            simp only [if_true] at h11; omega
          have ha0 := HAE.out
          have haN : a + N ≤ n := by omega
          have hdat : ((List.replicate (fi n) 0 ++ xs).drop (off n j)).take (sz n j - ck n) = (xs.drop a).take N := by
            rw [full_succ hf0, ha0]; congr 1; omega
          have haS : a + N = off n (j + 1) - fi n := by omega
          have hNI : (sz n j : Int) - 24 = (N : Int) := by omega
          have hdc : decide ((1 : Int) < (bC n : Int)) = true := by simp; omega
          have hsl : ∀ W, (Instr.sliceAt 25 (.slice A n c) (some (.int .i64 (a : Int))) (some (.int .i64 ((a : Int) + N))) none).run Tryz.prog W = .ok (.slice (cut A c a) N (c - a)) W := fun W => by
            have := Rdv.slI HX3.out el53 .i64 .i64 (l := a) (m := a + N) (by omega) (by omega) (a : Int) ((a : Int) + N) rfl (by omega) W
            rwa [Nat.add_sub_cancel_left] at this
          have hRx : Rd .u8 w3 (cut A c a) N (c - a) ((xs.drop a).take N) := by
            have := Rd.cut_ HX3.out (l := a) (m := a + N) (by omega) haN
            rwa [Nat.add_sub_cancel_left, List.drop_take, Nat.add_sub_cancel_left] at this
          have hNl : N ≤ 6144 := by omega
          have HRX := Lib.hid hRx
          have HDAT := Lib.hid hdat
          have HAS := Lib.hid haS
          have hszl := hsz.2
          have hll : L.length < 20 := by rw [HLN.out]; omega
          clear hdat hRx haS hst hmo hsz ha0
          have E1 := Lib.hid e1
          clear e1
          have hj0 : decide ((j : Int) = 0) = false := by simp; omega
          have hj1 : ((j : Int) == 0) = false := beq_f (by omega)
          have HBT := Lib.hid (show Bit ((xs.drop a).take N) from bit_take _ (bit_drop _ hb))
          go_wp2_with (first
            | (at_builtin; refine list_of rfl fun K hK => wp_app (base := wr.heap.size) (.tmp 50) (.tmp 56) 25 rfl el53 rfl rfl (Ownv.nilv 5 wr wr.heap.size) (Rdv.below HRX.out HB.out) (oneCell_ints .u8 _) (by omega) (by unfold maxLen; omega) (Below.refl wr.heap.size wr).size ?_; intro A5 c5x w5 hO5 hg5; have HB5 := Lib.hid ((Below.refl wr.heap.size wr).grown hg5 (Below.refl wr.heap.size wr).size (fun k hk => Ownv.ob' (Ownv.nilv 5 wr wr.heap.size) hk)); have HO5 := Lib.hid (Own.of_eq (k := .u8) (xs := (xs.drop a).take N) hO5 (n' := N) (Nat.zero_add N) (by simp)); clear hO5 hg5; obtain ⟨⟨c0, c1', c2, c3, c4, c5, c6⟩, -⟩ := Blk.seven (HL3.out.below (HB.out.trans (HB5.out.mono HB.out.size))); refine hK _ _ ?_; clear hK K)
            | (go_at_call 101; refine (rchk_any A5 _ c5x ((xs.drop a).take N) _ (Own.rd HO5.out) HBT.out (by omega)).mono ?_; rintro e w6 ⟨A6, c6x, rfl, hO6, hB6⟩; have HO6 := Lib.hid (Own.rd hO6); have HB6 := Lib.hid (HB5.out.trans (hB6.mono HB5.out.size)); have HO5b := Lib.hid (Ownv.below HO5.out hB6); clear hO6 hB6)
            | (at_builtin; refine list_of rfl fun K hK => wp_app (base := wr.heap.size) (.tmp 64) (.tmp 66) 25 rfl el53 rfl rfl HO5b.out HO6.out (oneCell_ints .u8 _) (by omega) (by unfold maxLen; omega) HB6.out.size ?_; intro A7 c7x w7 hO7 hg7; have HB7 := Lib.hid (HB6.out.grown hg7 HB6.out.size (fun k hk => Ownv.ob' HO5b.out hk)); have HO7 := Lib.hid (Own.of_eq (k := .u8) (xs := (xs.drop a).take N ++ crcSum 2 ((xs.drop a).take N)) hO7 (n' := N + 24) rfl (by simp)); clear hO7 hg7; refine hK _ _ ?_; clear hK K)
            | (at_builtin; refine list_of rfl fun K hK => wp_app1 (w := w7) (base := w3.heap.size) (.tmp 68) (.tmp 70) 28 rfl el55 rfl (.slice A7 (N + 24) c7x) rfl rfl (HBL.out.below HB7.out).o (by omega) (by omega) (Nat.le_trans HB.out.size HB7.out.size) ?_; intro A8 c8x w8 hO8 hg8; have HO8 := Lib.hid hO8; have HG8 := Lib.hid hg8; clear hO8 hg8; refine hK _ _ ?_; clear hK K))
          have hseg : segB n (((List.replicate (fi n) 0 ++ xs).drop (off n j)).take (sz n j - ck n)) = (xs.drop a).take N ++ crcSum 2 ((xs.drop a).take N) := by
            rw [HDAT.out]; unfold segB; rw [if_neg hq]
          have hA7 : A7 ≠ none := own_some HO7.out (q := 0) (by omega)
          have hge := (Ownv.blk_of HO7.out hA7).1
          have hBL2 : BL w8 w3.heap.size A8 c8x (L ++ [(⟨A7, N + 24, c7x, (xs.drop a).take N ++ crcSum 2 ((xs.drop a).take N)⟩ : Sv)]) :=
            BL.push (HBL.out.below HB7.out) (s := (⟨A7, N + 24, c7x, (xs.drop a).take N ++ crcSum 2 ((xs.drop a).take N)⟩ : Sv)) (Ownv.mono HO7.out HB.out.size) hA7 (fun t ht => by have h8 := (Ownv.blk_of (HBL.out.r t ht).1 (HBL.out.r t ht).2).2; exact Nat.ne_of_lt (Nat.lt_of_lt_of_le h8 hge)) HO8.out HG8.out
          have hB8 : Below w3.heap.size w3 w8 := (HB.out.trans (HB7.out.mono HB.out.size)).grown HG8.out (Nat.le_trans HB.out.size HB7.out.size) (fun k hk => Ownv.ob' (HBL.out.below HB7.out).o hk)
          go_roundw
          case rel => exact ⟨j + 1, a + N, A8, c8x, L ++ [(⟨A7, N + 24, c7x, (xs.drop a).take N ++ crcSum 2 ((xs.drop a).take N)⟩ : Sv)], by omega, by first | rfl | go_num, by go_num, HAS.out, by simp, hBL2, by simp [HLN.out], by rw [List.map_append, HX.out, segs_succ, hseg]; rfl, hB8⟩
          case measure => simp [intOf]; omega
    · obtain rfl : j = bC n := by omega
      go_wp2
      go_ret2
      exact ⟨A1, c1, L, rfl, HBL.out.mono HB3.out.size, HX.out, HB3.out.trans (HB.out.mono HB3.out.size)⟩
end Go.Proofs.YtcbbkflnenkpgaaGreat

namespace Go.Proofs.YtcbbkflnenkpgaaGreat
open Go.RowKit CM
set_option linter.unusedVariables false
theorem conv_rd {w : World} {A : Option Addr} {n c : Nat} {xs : List Int} (h : Rd .u8 w A n c xs) : (convert 25 9 (.slice A n c)).run Tryz.prog w = .ok (.string (strOfNums xs)) w := by
  have hu : Tryz.prog.underlying 9 = some .string := by kernel_rfl
  have h5 : Tryz.prog.underlying 5 = some (.int .u8) := by kernel_rfl
  cases A with
  | none =>
    have := Rdv.nil h rfl
    have := Rdv.le h
    obtain rfl : n = 0 := by omega
    obtain rfl : xs = [] := List.eq_nil_of_length_eq_zero h.len
    exact run_convert_bytes_nil w 25 5 el53.u h5 0 c 9 hu
  | some a =>
    by_cases hn : n = 0
    · subst hn
      obtain rfl : xs = [] := List.eq_nil_of_length_eq_zero h.len
      rw [run_convert_bytes_string w 25 9 5 _ 0 c el53.u h5 hu, run_bytesToString w a 0 c [] (by simpa using run_loadCells_list (P := Tryz.prog) w a [] (fun j v hj => by cases hj))]
      rfl
    · obtain ⟨b, o, hA, _⟩ := Rdv.ptr h (by have := Rdv.le h; omega)
      cases hA
      exact run_convert_bytes_arg w 25 5 el53.u h5 b o n c xs h.len (fun i hi => Rd.cell h hi) 9 hu
theorem strOf_inj {xs ys : List Int} (hx : ∀ x ∈ xs, 0 ≤ x ∧ x < 256) (hy : ∀ x ∈ ys, 0 ≤ x ∧ x < 256) (h1 : xs.map (fun n => UInt8.ofNat n.toNat) = ys.map (fun n => UInt8.ofNat n.toNat)) : xs = ys := by
  have hl : xs.length = ys.length := by simpa using congrArg List.length h1
  apply List.ext_getElem hl
  intro i hi hj
  have h2 : (xs.map (fun n => UInt8.ofNat n.toNat))[i]'(by simpa using hi) = (ys.map (fun n => UInt8.ofNat n.toNat))[i]'(by simpa using hj) := by simp only [h1]
  simp only [List.getElem_map] at h2
  have h3 := congrArg UInt8.toNat h2
  have a := hx _ (List.getElem_mem hi)
  have b := hy _ (List.getElem_mem hj)
  simp only [UInt8.toNat_ofNat'] at h3
  rw [Nat.mod_eq_of_lt (by omega), Nat.mod_eq_of_lt (by omega)] at h3
  omega
theorem strEq {xs ys : List Int} (hx : ∀ x ∈ xs, 0 ≤ x ∧ x < 256) (hy : ∀ x ∈ ys, 0 ≤ x ∧ x < 256) : ((strOfNums xs).toList == (strOfNums ys).toList) = decide (xs = ys) := by
  rw [ByteArray.toList_eq, ByteArray.toList_eq, strOfNums_data, strOfNums_data]
  by_cases h : xs = ys
  · subst h; simp
  · have h9 : ¬ (xs.map fun n => UInt8.ofNat n.toNat) = (ys.map fun n => UInt8.ofNat n.toNat) := fun e => h (strOf_inj hx hy e)
    simp only [h, decide_false]
    exact beq_eq_false_iff_ne.2 h9

def IntsInv (w : World) (n : Nat) (xs ys : List Int) (i : Value) (wr : World) : Prop := ∃ j : Nat, j ≤ n ∧ i = .int .i64 j ∧ (∀ q, q < j → gi xs q = gi ys q) ∧ Qt w wr
/-- a list of rows of bytes that can be read -/
structure RL (w : World) (A : Option Addr) (n c : Nat) (L : List Sv) : Prop where
  o : Rdv w A n c (L.map Sv.v)
  r : ∀ s ∈ L, Rd .u8 w s.A s.n s.c s.xs
theorem BL.rl {w : World} {base c : Nat} {A : Option Addr} {L : List Sv} (h : BL w base A c L) : RL w A L.length c L := ⟨h.o.rd, fun s hs => Own.rd (h.r s hs).1⟩
theorem RL.len {w : World} {A : Option Addr} {n c : Nat} {L : List Sv} (h : RL w A n c L) : L.length = n := by have := h.o.len; simpa using this
theorem RL.below {w w' : World} {A : Option Addr} {n c : Nat} {L : List Sv} (h : RL w A n c L) (hB : Below w.heap.size w w') : RL w' A n c L := ⟨Rdv.below h.o hB, fun s hs => Rdv.below (h.r s hs) hB⟩
theorem RL.drewN {w : World} {A : Option Addr} {n c : Nat} {L : List Sv} (h : RL w A n c L) (q : Nat) : RL (w.drewN q) A n c L := ⟨Rdv.drewN h.o q, fun s hs => Rdv.drewN (h.r s hs) q⟩
theorem RL.get {w : World} {A : Option Addr} {n c : Nat} {L : List Sv} (h : RL w A n c L) {j : Nat} (hj : j < n) : ∃ s, L[j]? = some s ∧ w.cell? (adr A j) = some (.slice s.A s.n s.c) ∧ Rd .u8 w s.A s.n s.c s.xs := by
  have hl := h.len
  have hj' : j < L.length := by omega
  exact ⟨L[j], List.getElem?_eq_getElem hj', h.o.at_ j _ (by simp [hj', Sv.v]), h.r _ (List.getElem_mem hj')⟩
/-- all numbers are bytes -/
def Byt (xs : List Int) : Prop := ∀ x ∈ xs, 0 ≤ x ∧ x < 256
theorem byt_bit {xs : List Int} (h : Bit xs) : Byt xs := fun x hx => by rcases h x hx with rfl | rfl <;> decide
def LsInv (w : World) (n : Nat) (L M : List Sv) (i : Value) (wr : World) : Prop := ∃ j : Nat, j ≤ n ∧ i = .int .i64 j ∧ (∀ q, q < j → (L[q]?.map (·.xs)) = (M[q]?.map (·.xs))) ∧ Qt w wr
set_option maxRecDepth 100000 in
set_option maxHeartbeats 400000 in
theorem lists_any (A B : Option Addr) (n c m d : Nat) (L M : List Sv) (w : World) (hx : RL w A n c L) (hy : RL w B m d M) (h1 : ∀ s ∈ L, Byt s.xs) (h2 : ∀ s ∈ M, Byt s.xs) :
    Calls Tryz.prog 11 #[.slice A n c, .slice B m d] w fun e w' => e = .returned (.bool (decide (L.map (·.xs) = M.map (·.xs)))) ∧ Qt w w' := by
  have b1 := hx.o.bd.1
  have b2 := hy.o.bd.1
  have lx := hx.len
  have ly := hy.len
  by_cases hnm : n = m
  · subst hnm
    have hne : ((n : Int) != (n : Int)) = false := bne_f rfl
    have HXL := Lib.hid lx
    have HYL := Lib.hid ly
    clear lx ly
    go_enter Tryz.func11, Tryz.ntmps11
    go_wp2
    go_loopw [5] (fun i wr => LsInv w n L M i wr) (fun i _ => n - (intOf i).toNat)
    case atStart => exact ⟨0, by omega, rfl, by intro q hq; omega, 0, rfl⟩
    case round =>
      obtain ⟨j, hj, rfl, hv, q0, rfl⟩ := hrel
      by_cases hlt : j < n
      · obtain ⟨s, hs, hc, hR⟩ := hx.get hlt
        obtain ⟨t, ht, hd, hT⟩ := hy.get hlt
        have hix := fun W => Rdv.ix hx.o el55 hlt .i64 W
        have hiy := fun W => Rdv.ix hy.o el55 hlt .i64 W
        have HV := Lib.hid hv; clear hv
        have hse := strEq (h1 s (List.mem_of_getElem? hs)) (h2 t (List.mem_of_getElem? ht))
        have k1 := fun q => conv_rd (Rdv.drewN hR q)
        have k2 := fun q => conv_rd (Rdv.drewN hT q)
        have HS := Lib.hid hs
        have HT := Lib.hid ht
        by_cases h9 : s.xs = t.xs
        · have H9 := Lib.hid h9
          rw [decide_eq_true h9] at hse
          clear hs ht h9 hR hT
          generalize strOfNums s.xs = S1 at *
          generalize strOfNums t.xs = S2 at *
          go_wp2
          go_quiet (fail)
          go_wp2
          go_roundw
          case rel => exact ⟨j + 1, by omega, by go_num, fun q hq => lt_succ_cases HV.out (by rw [HS.out, HT.out]; simp [H9.out]) q hq, by first | exact ⟨_, rfl⟩ | exact Qt.drewN ⟨_, rfl⟩ _⟩
          case measure => simp [intOf]; omega
        · have hf : decide (L.map (·.xs) = M.map (·.xs)) = false := by
            rw [decide_eq_false_iff_not]
            intro e
            have e1 := congrArg (fun l => l[j]?) e
            simp only [List.getElem?_map, hs, ht, Option.map_some, Option.some.injEq] at e1
            exact h9 e1
          have HF := Lib.hid hf
          rw [decide_eq_false h9] at hse
          clear hs ht h9 hR hT hf
          generalize strOfNums s.xs = S1 at *
          generalize strOfNums t.xs = S2 at *
          go_wp2
          go_quiet (fail)
          go_wp2
          go_ret
          exact ⟨ret_bool HF.out.symm, by first | exact ⟨_, rfl⟩ | exact Qt.drewN ⟨_, rfl⟩ _⟩
      · have hf : decide (L.map (·.xs) = M.map (·.xs)) = true := by
          rw [decide_eq_true_eq]
          apply List.ext_getElem?
          intro q
          by_cases hq : q < n
          · rw [List.getElem?_map, List.getElem?_map]; exact hv q (by omega)
          · rw [List.getElem?_eq_none (by simp [HXL.out]; omega), List.getElem?_eq_none (by simp [HYL.out]; omega)]
        have HF := Lib.hid hf
        clear hf hv
        go_wp2
        go_ret
        exact ⟨ret_bool HF.out.symm, by first | exact ⟨_, rfl⟩ | exact Qt.drewN ⟨_, rfl⟩ _⟩
  · have hne : ((n : Int) != (m : Int)) = true := bne_t (by omega)
    have hf : decide (L.map (·.xs) = M.map (·.xs)) = false := by
      rw [decide_eq_false_iff_not]
      intro e
      have := congrArg List.length e
      simp at this; omega
    have HF := Lib.hid hf
    clear hf lx ly
    go_enter Tryz.func11, Tryz.ntmps11
    go_wp2
    go_ret
    exact ⟨ret_bool HF.out.symm, 0, rfl⟩
def OnInv (w : World) (n : Nat) (A : Option Addr) (i : Value) (wr : World) : Prop := ∃ j : Nat, j ≤ n ∧ i = .int .i64 j ∧ Own .u8 5 wr w.heap.size A n n (List.replicate j 1 ++ List.replicate (n - j) 0) ∧ Below w.heap.size w wr
theorem ones_step (n j : Nat) (h : j < n) : (List.replicate j (1 : Int) ++ List.replicate (n - j) 0).set j 1 = List.replicate (j + 1) 1 ++ List.replicate (n - (j + 1)) 0 := by
  rw [List.set_append_right _ _ (by simp), List.length_replicate, Nat.sub_self, show n - j = (n - (j + 1)) + 1 by omega, List.replicate_succ, List.set_cons_zero, List.replicate_succ' (n := j), List.append_assoc]
  rfl
def layV (L : List Int) : Value := .agg (ints8 L).toArray
end Go.Proofs.YtcbbkflnenkpgaaGreat

namespace Go.Proofs.YtcbbkflnenkpgaaGreat
open Go.RowKit CM
set_option linter.unusedVariables false
theorem below_drewN {n : Nat} {w w' : World} (h : Below n w w') (q : Nat) : Below n w (w'.drewN q) := ⟨h.1, h.2, h.3, h.4, h.5⟩
theorem Blk.ne {w : World} {b b' : Nat} {t t' : TypeId} {cs cs' : List Value} (h : Blk w b t cs) (h' : Blk w b' t' cs') (ht : t ≠ t') : b ≠ b' := by
  rintro rfl
  have := Option.some.inj (h.symm.trans h')
  simp only [Obj.cells.injEq] at this
  exact ht this.2.1
/-- all blocks are of bits -/
def jV (L : List Sv) : Bool := L.all fun s => ValidB s.xs
/-- all blocks have their sizes -/
def jS (b : Nat) (L : List Sv) : Bool := (List.range L.length).all fun j => decide (L[j]?.map Sv.n = some (sz b j))
/-- all blocks have their checksums -/
def jC (L : List Sv) : Bool := L.all fun s => decide (chkErr 2 s.xs = 0)
def jF (b : Nat) (L : List Sv) : Bool := match L[0]? with | some s => No1 (s.xs.take (fi b)) | none => true
def jErr (b : Nat) (L : List Sv) : Int :=
  if jV L = false then 3 else if L.length ≠ bC b then 60 else if jS b L = false then 60 else if jF b L = false then 60 else if ¬ b ≤ 6144 ∧ jC L = false then 61 else 0
/-- the data of the first k blocks -/
def jD (b : Nat) (L : List Sv) (k : Nat) : List Int := (L.take k).flatMap fun s => s.xs.take (s.n - ck b)
def jRes (b : Nat) (L : List Sv) : List Int := if jErr b L = 0 then (jD b L L.length).drop (fi b) else []
def JPost (b : Nat) (L : List Sv) (w : World) (e : Ending) (w' : World) : Prop := ∃ A' n' c', e = .returned (.tuple #[.slice A' n' c', .int .i64 (jErr b L)]) ∧ Rd .u8 w' A' n' c' (jRes b L) ∧ Below w.heap.size w w'
def JBad (k : Int) (w : World) (e : Ending) (w' : World) : Prop := e = .returned (.tuple #[.slice none 0 0, .int .i64 k]) ∧ Below w.heap.size w w'
theorem jbad_post {b : Nat} {L : List Sv} {k : Int} {w w' : World} {e : Ending} (h : JBad k w e w') (hk : jErr b L = k) (h0 : k ≠ 0) : JPost b L w e w' := by
  obtain ⟨rfl, hB⟩ := h
  refine ⟨none, 0, 0, by rw [hk], ?_, hB⟩
  unfold jRes
  rw [if_neg (by rw [hk]; exact h0)]
  exact Rd.nilv _ _
/-- the end of a Join that has panicked -/
theorem join_end (R : Ending → World → Prop) (w w1 : World) (TB EB : Nat) (k : Int) (v : Value) (hR : ∀ e w', JBad k w e w' → R e w') (hT : Blk w1 TB 25 [v]) (hE : Blk w1 EB 29 [.int .i64 0]) (hB : Below w.heap.size w w1) (hT0 : w.heap.size ≤ TB) (hE0 : w.heap.size ≤ EB) (hne : EB ≠ TB) (ts : Array Value) (h2 : ts.getD 4 undef = .pointer (some ⟨TB, 0, none⟩)) (h3 : ts.getD 5 undef = .pointer (some ⟨EB, 0, none⟩)) :
    Leaves Tryz.prog Tryz.f37 ts R [{ target := .fn (.func 41) #[], args := #[.pointer (some ⟨EB, 0, none⟩), .func (.func 79) #[] #[.pointer (some ⟨TB, 0, none⟩)]] }] (.panicking (pan k)) w1 := by
  refine leaves_cons (f := 41) (args := #[.pointer (some ⟨EB, 0, none⟩), .func (.func 79) #[] #[.pointer (some ⟨TB, 0, none⟩)]]) (by simp) (by simp [go_sem]) ?_
  refine (caught_pan76 ⟨EB, 0, none⟩ _ k _ (fun W => Blk W TB 25 [.slice none 0 0] ∧ w1.grownBy W (some TB)) (joinc1_any TB _ w1 hT) (fun W hW => ?_)).mono ?_
  · have hE2 := hE.grown hW.2 (by intro he; exact hne (Option.some.inj he))
    exact ⟨⟨_, hE2.cell (j := 0) rfl⟩, hE2.frozen 0⟩
  rintro e u' w'' ⟨rfl, rfl, W2, hW2, rfl⟩
  have hE2 := hE.grown hW2.2 (by intro he; exact hne (Option.some.inj he))
  have l1 := lv53 ((hW2.1.other (g := EB) hne 0 (.int .i64 k)).cell (j := 0) (v := .slice none 0 0) rfl)
  have l2 := lv24 ((hE2.set 0 (.int .i64 k)).cell (j := 0) (v := .int .i64 k) rfl)
  have hBe := (hB.grown hW2.2 hB.size (fun k hk => by cases hk; exact hT0)).setCell (p := ⟨EB, 0, none⟩) hE0 (.int .i64 k)
  have HBE := Lib.hid hBe
  clear hBe hW2 hE2 hE hT hB
  have h2' : ts[4]?.getD undef = .pointer (some ⟨TB, 0, none⟩) := by simpa using h2
  have h3' : ts[5]?.getD undef = .pointer (some ⟨EB, 0, none⟩) := by simpa using h3
  simp [Leaves, settle, results, Tryz.results37, h2', h3', asAddr, l1, l2, Sem.run_bind, Result.andThen]
  exact hR _ _ ⟨rfl, HBE.out⟩
set_option maxRecDepth 100000 in
theorem join_bad (b : Int) (A : Option Addr) (n c : Nat) (w : World) (h : b < 1 ∨ 79560 < b) : Calls Tryz.prog 37 #[.int .i64 b, .slice A n c] w (JBad 2 w) := by
  have hmf : ∀ (fn : Fn) (first cap : Array Value) (w : World), (Instr.makeFunc fn first cap).run Tryz.prog w = .ok (.func fn first cap) w := fun _ _ _ _ => rfl
  have HH := Lib.hid h
  clear h
  have hT0 : Blk ((w.alloc (.cells #[.slice none 0 0] 25)).alloc (.cells #[.int .i64 0] 29)) w.heap.size 25 [.slice none 0 0] := (Blk.new w [.slice none 0 0] 25 rfl).alloc _
  have hE0 : Blk ((w.alloc (.cells #[.slice none 0 0] 25)).alloc (.cells #[.int .i64 0] 29)) (w.heap.size + 1) 29 [.int .i64 0] := Blk.new _ [.int .i64 0] 29 (by simp)
  have hB0 : Below w.heap.size w ((w.alloc (.cells #[.slice none 0 0] 25)).alloc (.cells #[.int .i64 0] 29)) := ((Below.refl _ _).alloc (Nat.le_refl _) _).alloc (by simp) _
  go_enter_defers Tryz.func37, Tryz.ntmps37
  go_wp2_with fail
  generalize (w.alloc (.cells #[.slice none 0 0] 25)).alloc (.cells #[.int .i64 0] 29) = W at *
  refine (plan_bad b W HH.out).mono ?_
  rintro e w1 ⟨rfl, hB1⟩
  exact join_end _ w w1 w.heap.size (w.heap.size + 1) 2 _ (fun _ _ h => h) (hT0.below hB1) (hE0.below hB1) (hB0.trans (hB1.mono hB0.size)) (Nat.le_refl _) (by omega) (by omega) _ rfl rfl
theorem jV_f {L : List Sv} {j : Nat} {s : Sv} (h : L[j]? = some s) (hv : ValidB s.xs = false) : jV L = false := by
  unfold jV; rw [List.all_eq_false]; exact ⟨s, List.mem_of_getElem? h, by simp [hv]⟩
theorem jV_t {L : List Sv} (h : ∀ q s, q < L.length → L[q]? = some s → ValidB s.xs = true) : jV L = true := by
  unfold jV; rw [List.all_eq_true]; intro s hs
  obtain ⟨j, hj, rfl⟩ := List.getElem_of_mem hs
  exact h j _ hj (List.getElem?_eq_getElem hj)
theorem jErr_v {b : Nat} {L : List Sv} (h : jV L = false) : jErr b L = 3 := by unfold jErr; rw [if_pos h]
theorem jErr_l {b : Nat} {L : List Sv} (h : jV L = true) (h2 : L.length ≠ bC b) : jErr b L = 60 := by unfold jErr; rw [if_neg (by simp [h]), if_pos h2]
theorem jErr_s {b : Nat} {L : List Sv} (h : jV L = true) (h2 : L.length = bC b) (h3 : jS b L = false) : jErr b L = 60 := by unfold jErr; rw [if_neg (by simp [h]), if_neg (by simp [h2]), if_pos h3]
theorem jErr_f {b : Nat} {L : List Sv} (h : jV L = true) (h2 : L.length = bC b) (h3 : jS b L = true) (h4 : jF b L = false) : jErr b L = 60 := by unfold jErr; rw [if_neg (by simp [h]), if_neg (by simp [h2]), if_neg (by simp [h3]), if_pos h4]
theorem jErr_c {b : Nat} {L : List Sv} (h : jV L = true) (h2 : L.length = bC b) (h3 : jS b L = true) (h4 : jF b L = true) (h5 : ¬ b ≤ 6144) (h6 : jC L = false) : jErr b L = 61 := by unfold jErr; rw [if_neg (by simp [h]), if_neg (by simp [h2]), if_neg (by simp [h3]), if_neg (by simp [h4]), if_pos ⟨h5, h6⟩]
theorem jErr_0 {b : Nat} {L : List Sv} (h : jV L = true) (h2 : L.length = bC b) (h3 : jS b L = true) (h4 : jF b L = true) (h5 : ¬ b ≤ 6144 → jC L = true) : jErr b L = 0 := by unfold jErr; rw [if_neg (by simp [h]), if_neg (by simp [h2]), if_neg (by simp [h3]), if_neg (by simp [h4]), if_neg (by rintro ⟨h6, h7⟩; rw [h5 h6] at h7; cases h7)]
theorem jS_f {b : Nat} {L : List Sv} {j : Nat} {s : Sv} (h : L[j]? = some s) (hv : s.n ≠ sz b j) : jS b L = false := by
  unfold jS; rw [List.all_eq_false]
  refine ⟨j, by rw [List.mem_range]; exact (List.getElem?_eq_some_iff.1 h).1, ?_⟩
  rw [h]; simpa using hv
theorem jS_t {b : Nat} {L : List Sv} (h : ∀ q s, q < L.length → L[q]? = some s → s.n = sz b q) : jS b L = true := by
  unfold jS; rw [List.all_eq_true]; intro j hj
  have hj' : j < L.length := by simpa using hj
  have := h j _ hj' (List.getElem?_eq_getElem hj')
  simp [hj', this]
def JsInv (W : World) (n b : Nat) (L : List Sv) (i : Value) (wr : World) : Prop := ∃ j : Nat, j ≤ n ∧ i = .int .i64 j ∧ (∀ q s, q < j → L[q]? = some s → s.n = sz b q) ∧ Below W.heap.size W wr
theorem Rdv.slhm {w : World} {A : Option Addr} {n c : Nat} {vs : List Value} {P : Program} (h : Rdv w A n c vs) {t e : TypeId} {z : Value} {bytes : Nat} (E : El P t e z bytes) (kl kh km : IntKind) {l m : Nat} (hl : l ≤ m) (hm : m ≤ c) (W : World) :
    (Instr.sliceAt t (.slice A n c) (some (.int kl (l : Int))) (some (.int kh (m : Int))) (some (.int km (m : Int)))).run P W = .ok (.slice (cut A m l) (m - l) (m - l)) W := by
  have e1 : P.underlying t = some (.slice (P.elem t)) := by rw [E.u]; simp [Program.elem, E.u]
  have e2 : P.elem t = e := by simp [Program.elem, E.u]
  rw [run_sliceAt_slice W t _ _ _ _ e1, run_slice_lhm W t A n c e1 kl kh km l m m (by omega) (by omega) (by omega) (by omega), e2, E.s]
  simp only [Result.andThen_ok, Int.toNat_natCast, sliced, Nat.mul_one, cut]
def JlInv (w : World) (b LB TB EB : Nat) (lay : List Int) (L : List Sv) (i : Value) (wr : World) : Prop := ∃ (k : Nat) (Ao : Option Addr) (no co : Nat), k ≤ bC b ∧ i = .int .i64 k ∧ Blk wr TB 25 [.slice Ao no co] ∧ Blk wr EB 29 [.int .i64 0] ∧ Blk wr LB 79 (ints8 lay) ∧ Own .u8 5 wr w.heap.size Ao no co (jD b L k) ∧ Below w.heap.size w wr ∧ (¬ b ≤ 6144 → ∀ q s, q < k → L[q]? = some s → chkErr 2 s.xs = 0)
theorem jD_succ {b : Nat} {L : List Sv} {k : Nat} {s : Sv} (h : L[k]? = some s) : jD b L (k + 1) = jD b L k ++ s.xs.take (s.n - ck b) := by
  unfold jD; rw [take_get h, List.flatMap_append]; simp
theorem jD_len {b : Nat} {L : List Sv} (hx : ∀ s ∈ L, s.xs.length = s.n) (hz : ∀ q s, L[q]? = some s → s.n = sz b q) : ∀ k, k ≤ L.length → (jD b L k).length = off b k
  | 0, _ => by simp [jD, off]
  | k + 1, h => by
    have hk : L[k]? = some L[k] := List.getElem?_eq_getElem (by omega)
    rw [jD_succ hk, List.length_append, jD_len hx hz k (by omega), List.length_take, hx _ (List.getElem_mem (by omega)), hz _ _ hk]
    simp only [off]; omega
theorem jC_f {L : List Sv} {j : Nat} {s : Sv} (h : L[j]? = some s) (hv : chkErr 2 s.xs ≠ 0) : jC L = false := by
  unfold jC; rw [List.all_eq_false]; exact ⟨s, List.mem_of_getElem? h, by simp [hv]⟩
theorem jC_t {L : List Sv} (h : ∀ q s, q < L.length → L[q]? = some s → chkErr 2 s.xs = 0) : jC L = true := by
  unfold jC; rw [List.all_eq_true]; intro s hs
  obtain ⟨j, hj, rfl⟩ := List.getElem_of_mem hs
  simp [h j _ hj (List.getElem?_eq_getElem hj)]
theorem grownBy_of_below {n : Nat} {w w' : World} (h : Below n w w') (hn : n = w.heap.size) : ∀ B t cs, Blk w B t cs → Blk w' B t cs := fun B t cs hB => by subst hn; exact hB.below h
def JvInv (n : Nat) (L : List Sv) (i : Value) : Prop := ∃ j : Nat, j ≤ n ∧ i = .int .i64 j ∧ ∀ q s, q < j → L[q]? = some s → ValidB s.xs = true
set_option maxRecDepth 100000 in
set_option maxHeartbeats 1000000 in
theorem join_any (b : Nat) (A : Option Addr) (n c : Nat) (L : List Sv) (w : World) (h1 : 1 ≤ b) (h2 : b ≤ 79560) (hL : RL w A n c L) (hs : ∀ s ∈ L, s.n ≤ 100000) : Calls Tryz.prog 37 #[.int .i64 b, .slice A n c] w (JPost b L w) := by
  have hmf : ∀ (fn : Fn) (first cap : Array Value) (w : World), (Instr.makeFunc fn first cap).run Tryz.prog w = .ok (.func fn first cap) w := fun _ _ _ _ => rfl
  have hbd := hL.o.bd.1
  have HL0 := Lib.hid hL
  have hT0 : Blk ((w.alloc (.cells #[.slice none 0 0] 25)).alloc (.cells #[.int .i64 0] 29)) w.heap.size 25 [.slice none 0 0] := (Blk.new w [.slice none 0 0] 25 rfl).alloc _
  have hE0 : Blk ((w.alloc (.cells #[.slice none 0 0] 25)).alloc (.cells #[.int .i64 0] 29)) (w.heap.size + 1) 29 [.int .i64 0] := Blk.new _ [.int .i64 0] 29 (by simp)
  have hB0 : Below w.heap.size w ((w.alloc (.cells #[.slice none 0 0] 25)).alloc (.cells #[.int .i64 0] 29)) := ((Below.refl _ _).alloc (Nat.le_refl _) _).alloc (by simp) _
  go_enter_defers Tryz.func37, Tryz.ntmps37
  go_wp2_with fail
  generalize (w.alloc (.cells #[.slice none 0 0] 25)).alloc (.cells #[.int .i64 0] 29) = W at *
  refine (plan_ok b W h1 h2).mono ?_
  rintro e w1 ⟨rfl, hB1⟩
  have hL1 := (hL.below hB0).below (hB1.mono (Nat.le_refl _))
  have HT := Lib.hid ((hT0.below hB1).alloc (.cells (ints8 (LY b)).toArray 79))
  have HE := Lib.hid ((hE0.below hB1).alloc (.cells (ints8 (LY b)).toArray 79))
  have HB := Lib.hid (bal (hB0.trans (hB1.mono hB0.size)) (.cells (ints8 (LY b)).toArray 79))
  have hK := Blk.new w1 (ints8 (LY b)) 79 rfl
  have HRL := Lib.hid (hL1.below (bal (Below.refl _ w1) (.cells (ints8 (LY b)).toArray 79)))
  clear hT0 hE0 hB0 hB1 hL hL1
  unfold LY at hK HT HE HB HRL ⊢
  simp only [ints8, List.map_cons, List.map_nil] at hK HT HE HB HRL ⊢
  have HK := Lib.hid hK
  clear hK
  obtain ⟨TB, hTB⟩ : ∃ TB, TB = w.heap.size := ⟨_, rfl⟩
  obtain ⟨EB, hEB⟩ : ∃ EB, EB = w.heap.size + 1 := ⟨_, rfl⟩
  rw [← hEB] at HE ⊢
  rw [← hTB] at HT ⊢
  have hT0 : w.heap.size ≤ TB := by omega
  have hE0 : w.heap.size ≤ EB := by omega
  have hne : EB ≠ TB := by omega
  have hne' : TB ≠ EB := by omega
  clear hTB hEB
  go_wp2_with fail
  generalize w1.alloc (.cells #[.int .i64 b, .int .i64 (bC b : Int), .int .i64 (lo b : Int), .int .i64 (sh b : Int), .int .i64 (los b : Int), .int .i64 (shs b : Int), .int .i64 (fi b : Int)] 79) = W1 at *
  generalize w1.heap.size = LB at *
  go_loop [20] (fun i => JvInv n L i) (fun i => n - (intOf i).toNat)
  case atStart => exact ⟨0, by omega, rfl, fun q s hq => by omega⟩
  case round =>
    obtain ⟨j, hj, rfl, hv⟩ := hrel
    have HV := Lib.hid hv
    clear hv
    by_cases hlt : j < n
    · obtain ⟨s, hgs, hc, hR⟩ := HRL.out.get hlt
      have hix := fun W => Rdv.ix HRL.out.o el55 hlt .i64 W
      have HGS := Lib.hid hgs
      have hbin := Lib.hid (binary_any s.A s.n s.c s.xs W1 hR)
      clear hgs
      by_cases hvs : ValidB s.xs = true
      · have HVS := Lib.hid hvs
        rw [hvs] at hbin
        clear hvs
        go_wp2_with (first
          | (go_at_call 45; refine hbin.out.mono ?_; rintro e w' ⟨rfl, rfl⟩)
          | (go_at_call 44; refine (must_ok _ _).mono ?_; rintro e w' ⟨rfl, rfl⟩))
        go_round
        case rel => exact ⟨j + 1, by omega, by go_num, fun q t hq hqt => by
          rcases Nat.lt_succ_iff_lt_or_eq.1 hq with hq | rfl
          · exact HV.out q t hq hqt
          · rw [HGS.out] at hqt; cases hqt; exact HVS.out⟩
        case measure => simp [intOf]; omega
      · have hvf : ValidB s.xs = false := by simpa using hvs
        have HJ := Lib.hid (jErr_v (b := b) (jV_f HGS.out hvf))
        rw [hvf] at hbin
        clear hvs hvf
        go_wp2_with (first
          | (go_at_call 45; refine hbin.out.mono ?_; rintro e w' ⟨rfl, rfl⟩)
          | (go_at_call 44; refine (must_bad _ _).mono ?_; rintro e w' ⟨rfl, rfl⟩))
        exact join_end _ w _ TB EB 3 _ (fun _ _ h => jbad_post h HJ.out (by decide)) HT.out HE.out HB.out hT0 hE0 hne _ rfl rfl
    · have hjv := jV_t (L := L) (fun q s hq => HV.out q s (by rw [HRL.out.len] at hq; omega))
      have HJV := Lib.hid hjv
      clear hjv
      obtain ⟨⟨c0, c1, c2, c3, c4, c5, c6⟩, -⟩ := Blk.seven HK.out
      by_cases hnC : n = bC b
      · subst hnC
        have hC := bC_le h2
        have hCp := @bC_pos b
        go_wp2_with (go_at_call 44; refine (must_ok _ _).mono ?_; rintro e w' ⟨rfl, rfl⟩)
        clear c0 c1 c2 c3 c4 c5 c6
        go_loopw [37] (fun i wr => JsInv W1 (bC b) b L i wr) (fun i _ => bC b - (intOf i).toNat)
        case atStart => exact ⟨0, by omega, rfl, fun q s hq => by omega, Below.refl _ _⟩
        case round =>
          obtain ⟨j, hj, rfl, hv, hB2⟩ := hrel
          have HV := Lib.hid hv
          have HB2 := Lib.hid hB2
          clear hv hB2
          by_cases hlt : j < bC b
          · obtain ⟨s, hgs, hc, hR⟩ := (HRL.out.below HB2.out).get hlt
            have hix := fun W => Rdv.ix HRL.out.o el55 hlt .i64 W
            have HGS := Lib.hid hgs
            obtain ⟨⟨c0, c1, c2, c3, c4, c5, c6⟩, -⟩ := Blk.seven (HK.out.below HB2.out)
            have hsz := sz_if b j
            have HSZ := Lib.hid hsz
            clear hgs hsz hR
            by_cases hvs : s.n = sz b j
            · have HVS := Lib.hid hvs
              have hd : ((s.n : Int) == (sz b j : Int)) = true := beq_t (by omega)
              clear hvs
              go_wp2_with (first
                | (go_at_call 48; refine (size_any _ _ _ _ _ _ _ _ _).mono ?_; rintro e w3 ⟨he, hB3⟩; rw [← HSZ.out] at he; subst he; have HB3 := Lib.hid (HB2.out.trans (hB3.mono HB2.out.size)); clear hB3)
                | (go_at_call 44; refine (must_ok _ _).mono ?_; rintro e w' ⟨rfl, rfl⟩))
              go_roundw
              case rel => exact ⟨j + 1, by omega, by go_num, fun q t hq hqt => by
                rcases Nat.lt_succ_iff_lt_or_eq.1 hq with hq | rfl
                · exact HV.out q t hq hqt
                · rw [HGS.out] at hqt; cases hqt; exact HVS.out, HB3.out⟩
              case measure => simp [intOf]; omega
            · have HJ := Lib.hid (jErr_s (b := b) HJV.out HRL.out.len (jS_f HGS.out hvs))
              have hd : ((s.n : Int) == (sz b j : Int)) = false := beq_f (by omega)
              clear hvs
              go_wp2_with (first
                | (go_at_call 48; refine (size_any _ _ _ _ _ _ _ _ _).mono ?_; rintro e w3 ⟨he, hB3⟩; rw [← HSZ.out] at he; subst he; have HB3 := Lib.hid (HB2.out.trans (hB3.mono HB2.out.size)); clear hB3)
                | (go_at_call 44; refine (must_bad _ _).mono ?_; rintro e w' ⟨rfl, rfl⟩))
              exact join_end _ w _ TB EB 60 _ (fun _ _ h => jbad_post h HJ.out (by decide)) (HT.out.below HB3.out) (HE.out.below HB3.out) (HB.out.trans (HB3.out.mono HB.out.size)) hT0 hE0 hne _ rfl rfl
          · have hjs := jS_t (b := b) (L := L) (fun q s hq => HV.out q s (by rw [HRL.out.len] at hq; omega))
            have HJS := Lib.hid hjs
            clear hjs
            obtain ⟨s, hgs, hc, hR⟩ := (HRL.out.below HB2.out).get (show 0 < bC b by omega)
            have hix := fun W => Rdv.ix HRL.out.o el55 (show 0 < bC b by omega) .i64 W
            rw [show ((0 : Nat) : Int) = 0 from rfl] at hix
            obtain ⟨⟨c0, c1, c2, c3, c4, c5, c6⟩, -⟩ := Blk.seven (HK.out.below HB2.out)
            have hsn : s.n = sz b 0 := HV.out 0 s (by omega) hgs
            have hsz := (sz_ge (i := 0) h1)
            simp only [if_true] at hsz
            have hfn : fi b ≤ s.n := by omega
            have hscap := Rdv.le hR
            have hsl := fun W => Rdv.slh hR el53 .i64 (m := fi b) (by omega) W
            have HH1 := Lib.hid (fun q => has1_any s.A (fi b) s.c (s.xs.take (fi b)) _ (Rd.upto (Rdv.drewN hR q) hfn))
            have hjf : jF b L = No1 (s.xs.take (fi b)) := by unfold jF; rw [hgs]
            have HJF := Lib.hid hjf
            clear hjf hR hsz hsn hfn
            by_cases h1b : No1 (s.xs.take (fi b)) = true
            · rw [h1b] at HH1
              have HJF1 := Lib.hid (show jF b L = true by rw [HJF.out]; exact h1b)
              go_wp2
              go_still_tail 7, (by kernel_rfl)
              simp only [World.drew_eq]
              go_wp2_with (first
                | (go_at_call 80; refine (HH1.out 1).mono ?_; rintro e w' ⟨rfl, rfl⟩)
                | (go_at_call 44; refine (must_ok _ _).mono ?_; rintro e w' ⟨rfl, rfl⟩))
              have HT3 := Lib.hid (Blk.drewN (HT.out.below HB2.out) 1)
              have HE3 := Lib.hid (Blk.drewN (HE.out.below HB2.out) 1)
              have HL3 := Lib.hid (Blk.drewN (HK.out.below HB2.out) 1)
              have HB3 := Lib.hid (below_drewN (HB.out.trans (HB2.out.mono HB.out.size)) 1)
              have HZ := Lib.hid (show ∀ q s, L[q]? = some s → s.n = sz b q from fun q s hqs => HV.out q s (by have h8 := (List.getElem?_eq_some_iff.1 hqs).1; have h9 := HRL.out.len; omega) hqs)
              have HLEN := Lib.hid (show ∀ s ∈ L, s.xs.length = s.n from fun s hs => Rd.len (HL0.out.r s hs))
              clear hix hsl hc c0 c1 c2 c3 c4 c5 c6 HH1 HT HE HK HB HB2 HV hgs hscap
              generalize wr.drewN 1 = W3 at *
              have hoff := off_all h1
              have hfl := fi_lt h1 h2
              go_loopw [62] (fun i wr => JlInv w b LB TB EB (LY b) L i wr) (fun i _ => bC b - (intOf i).toNat)
              case atStart => exact ⟨0, none, 0, 0, by omega, rfl, HT3.out, HE3.out, HL3.out, Ownv.nilv 5 W3 _, HB3.out, fun _ q s hq => by omega⟩
              case round =>
                obtain ⟨k, Ao, no, co, hk, rfl, hT4, hE4, hL4, hO4, hB4, hC4⟩ := hrel
                unfold LY at hL4
                simp only [ints8, List.map_cons, List.map_nil] at hL4
                have HT4 := Lib.hid hT4
                have HE4 := Lib.hid hE4
                have HL4 := Lib.hid hL4
                have HO4 := Lib.hid hO4
                have HB4 := Lib.hid hB4
                have HC := Lib.hid hC4
                have t0 := hT4.cell (j := 0) rfl
                have t1 := hT4.frozen 0
                have e0 := hE4.cell (j := 0) rfl
                have e1 := hE4.frozen 0
                obtain ⟨⟨c0, c1, c2, c3, c4, c5, c6⟩, -⟩ := Blk.seven hL4
                have hno : no = off b k := by rw [← Rd.len (Own.rd hO4)]; exact jD_len HLEN.out HZ.out k (by rw [HRL.out.len]; exact hk)
                clear hT4 hE4 hL4 hO4 hB4 hC4
                by_cases hlt : k < bC b
                · obtain ⟨s, hgs, hc, hR⟩ := (HL0.out.below HB4.out).get hlt
                  have hix := fun W => Rdv.ix HL0.out.o el55 hlt .i64 W
                  have hsn := HZ.out k s hgs
                  have hs100 := hs s (List.mem_of_getElem? hgs)
                  have hszz := sz_ge (i := k) h1
                  have hmo := off_le (b := b) (show k + 1 ≤ bC b by omega)
                  have hst : off b (k + 1) = off b k + (sz b k - ck b) := rfl
                  have hR0 := HL0.out.r s (List.mem_of_getElem? hgs)
                  have hcap := Rdv.le hR0
                  have HGS := Lib.hid hgs
                  by_cases hb6 : b ≤ 6144
                  · have ek : ck b = 0 := by unfold ck; rw [if_pos hb6]
                    have HIF := Lib.hid (show (if (1 : Int) < (bC b : Int) then (24 : Int) else 0) = 0 from if_neg (by have := bC_one hb6; omega))
                    obtain ⟨N, hN⟩ : ∃ N, N = s.n := ⟨_, rfl⟩
                    have HNE := Lib.hid (show s.n - ck b = N by omega)
                    have hsl : ∀ W, (Instr.sliceAt 25 (.slice s.A s.n s.c) none (some (.int .i64 (s.n : Int))) none).run Tryz.prog W = .ok (.slice s.A N s.c) W := fun W => by rw [hN]; exact Rdv.slh hR0 el53 .i64 (by omega) W
                    have HRN := Lib.hid (show Rd .u8 w s.A N s.c (s.xs.take N) from Rd.upto hR0 (by omega))
                    have hnoN : no + N ≤ 80000 := by omega
                    have hN6 : N ≤ 6144 := by omega
                    have hs6 : s.n ≤ 6144 := by omega
                    have hwr : IntKind.i64.wrap (s.n : Int) = s.n := by rw [IntKind.wrap_i64]; omega
                    have HNO := Lib.hid hno
                    clear hno
                    clear hgs hsn hs100 hszz hmo hst hR hR0 hcap ek hN
                    go_wp2_with (go_at_call 49; refine (check_lay _ _ _ _ _ _ _ _).mono ?_; rintro e w4 ⟨he, hB5⟩; rw [HIF.out] at he; subst he; have HTX := Lib.hid (HT4.out.below hB5); have HEX := Lib.hid (HE4.out.below hB5); have HLX := Lib.hid (HL4.out.below hB5); have HOX := Lib.hid (Ownv.below HO4.out hB5); have HBX := Lib.hid (HB4.out.trans (hB5.mono HB4.out.size)); clear hB5)
                    refine wp_nopanic ?_
                    have mkS : ∀ W', Blk W' TB 25 [.slice Ao no co] → Blk W' LB 79 [.int .i64 b, .int .i64 (bC b : Int), .int .i64 (lo b : Int), .int .i64 (sh b : Int), .int .i64 (los b : Int), .int .i64 (shs b : Int), .int .i64 (fi b : Int)] → (fun W' => W'.cell? ⟨TB, 0, none⟩ = some (.slice Ao no co) ∧ W'.frozen? ⟨TB, 0, none⟩ = false ∧ W'.cell? ⟨LB, 0, none⟩ = some (.int .i64 b) ∧ W'.cell? ⟨LB, 1, none⟩ = some (.int .i64 (bC b : Int)) ∧ W'.cell? ⟨LB, 2, none⟩ = some (.int .i64 (lo b : Int)) ∧ W'.cell? ⟨LB, 3, none⟩ = some (.int .i64 (sh b : Int)) ∧ W'.cell? ⟨LB, 4, none⟩ = some (.int .i64 (los b : Int)) ∧ W'.cell? ⟨LB, 5, none⟩ = some (.int .i64 (shs b : Int)) ∧ W'.cell? ⟨LB, 6, none⟩ = some (.int .i64 (fi b : Int))) W' := fun W' g1 g2 => ⟨g1.cell (j := 0) rfl, g1.frozen 0, (Blk.seven g2).1⟩
                    have hS0 := mkS w4.drew HTX.out HLX.out
                    refine P_start (fun W' => W'.cell? ⟨TB, 0, none⟩ = some (.slice Ao no co) ∧ W'.frozen? ⟨TB, 0, none⟩ = false ∧ W'.cell? ⟨LB, 0, none⟩ = some (.int .i64 b) ∧ W'.cell? ⟨LB, 1, none⟩ = some (.int .i64 (bC b : Int)) ∧ W'.cell? ⟨LB, 2, none⟩ = some (.int .i64 (lo b : Int)) ∧ W'.cell? ⟨LB, 3, none⟩ = some (.int .i64 (sh b : Int)) ∧ W'.cell? ⟨LB, 4, none⟩ = some (.int .i64 (los b : Int)) ∧ W'.cell? ⟨LB, 5, none⟩ = some (.int .i64 (shs b : Int)) ∧ W'.cell? ⟨LB, 6, none⟩ = some (.int .i64 (fi b : Int))) 9 10 #[false, false, false, false, false, false, false, false, false, false] (by kernel_rfl) (by kernel_rfl) (by kernel_rfl) ?_
                    refine P_takeW 1 78 (.slice s.A s.n s.c) #[false, true, false, false, false, false, false, false, false, false] rfl rfl (by kernel_rfl) (by kernel_rfl) (by kernel_rfl) (by kernel_rfl) (by decide) (fun _ _ _ h => h) (Or.inl ⟨by rfl, fun W hS => by go_simp⟩) hS0 ?_
                    simp only [List.setIfInBounds_toArray, List.set_cons_zero, List.set_cons_succ]
                    refine P_takeW 2 79 (.slice s.A s.n s.c) #[false, true, true, false, false, false, false, false, false, false] rfl rfl (by kernel_rfl) (by kernel_rfl) (by kernel_rfl) (by kernel_rfl) (by decide) (fun _ _ _ h => h) (Or.inl ⟨by rfl, fun W hS => by go_simp⟩) hS0 ?_
                    simp only [List.setIfInBounds_toArray, List.set_cons_zero, List.set_cons_succ]
                    refine P_takeW 3 80 (.int .i64 s.n) #[false, true, true, true, false, false, false, false, false, false] rfl rfl (by kernel_rfl) (by kernel_rfl) (by kernel_rfl) (by kernel_rfl) (by decide) (fun _ _ _ h => h) (Or.inl ⟨by rfl, fun W hS => by go_simp⟩) hS0 ?_
                    simp only [List.setIfInBounds_toArray, List.set_cons_zero, List.set_cons_succ]
                    refine P_take 0 77 (.slice Ao no co) #[true, true, true, true, false, false, false, false, false, false] rfl rfl (by kernel_rfl) (by kernel_rfl) (by kernel_rfl) (by kernel_rfl) (by kernel_rfl) (by kernel_rfl) (by decide) (fun _ _ _ h => h) (Or.inl ⟨by rfl, fun W hS => by obtain ⟨s0, s1, s2, s3, s4, s5, s6, s7, s8⟩ := hS; go_simp⟩) hS0 ?_
                    simp only [List.setIfInBounds_toArray, List.set_cons_zero, List.set_cons_succ]
                    refine P_take 4 81 (.agg #[.int .i64 b, .int .i64 (bC b : Int), .int .i64 (lo b : Int), .int .i64 (sh b : Int), .int .i64 (los b : Int), .int .i64 (shs b : Int), .int .i64 (fi b : Int)]) #[true, true, true, true, true, false, false, false, false, false] rfl rfl (by kernel_rfl) (by kernel_rfl) (by kernel_rfl) (by kernel_rfl) (by kernel_rfl) (by kernel_rfl) (by decide) (fun _ _ _ h => h) (Or.inl ⟨by rfl, fun W hS => by obtain ⟨s0, s1, s2, s3, s4, s5, s6, s7, s8⟩ := hS; go_simp⟩) hS0 ?_
                    simp only [List.setIfInBounds_toArray, List.set_cons_zero, List.set_cons_succ]
                    refine P_oneS 5 #[true, true, true, true, true, true, false, false, false, false] rfl (by kernel_rfl) (by kernel_rfl) rfl (fun K hK => ?_)
                    go_simp
                    refine (check_lay _ _ _ _ _ _ _ _).mono ?_
                    rintro e w7 ⟨he, hB7⟩
                    rw [HIF.out] at he
                    subst he
                    have HT7 := Lib.hid ((Blk.drew HTX.out).below hB7)
                    have HE7 := Lib.hid ((Blk.drew HEX.out).below hB7)
                    have HL7 := Lib.hid ((Blk.drew HLX.out).below hB7)
                    have HO7 := Lib.hid (Ownv.below (Ownv.drew HOX.out) hB7)
                    have HB7 := Lib.hid (HBX.out.trans (((Below.refl w4.heap.size w4).drew.trans hB7).mono HBX.out.size))
                    have hS1 := mkS w7 HT7.out HL7.out
                    refine hK _ _ hS1 ?_
                    clear hK K hB7
                    refine P_takeW 6 83 (.int .i64 (s.n : Int)) #[true, true, true, true, true, true, true, false, false, false] rfl rfl (by kernel_rfl) (by kernel_rfl) (by kernel_rfl) (by kernel_rfl) (by decide) (fun _ _ _ h => h) (Or.inl ⟨by rfl, fun W hS => by go_simp⟩) hS1 ?_
                    simp only [List.setIfInBounds_toArray, List.set_cons_zero, List.set_cons_succ]
                    refine P_takeW 7 84 (.slice s.A N s.c) #[true, true, true, true, true, true, true, true, false, false] rfl rfl (by kernel_rfl) (by kernel_rfl) (by kernel_rfl) (by kernel_rfl) (by decide) (fun _ _ _ h => h) (Or.inl ⟨by rfl, fun W hS => by go_simp⟩) hS1 ?_
                    simp only [List.setIfInBounds_toArray, List.set_cons_zero, List.set_cons_succ]
                    refine P_oneS 8 #[true, true, true, true, true, true, true, true, true, false] rfl (by kernel_rfl) (by kernel_rfl) rfl (fun K hK => ?_)
                    refine wp_app (base := w.heap.size) (.tmp 77) (.tmp 84) 25 rfl el53 rfl rfl HO7.out (Rdv.below HRN.out HB7.out) (oneCell_ints .u8 _) (by omega) (by unfold maxLen; omega) HB7.out.size ?_
                    intro A8 c8 w8 hO8 hg8
                    have HT8 := Lib.hid (HT7.out.grown hg8 (blk_ne_row HT7.out HO7.out (by decide)))
                    have HE8 := Lib.hid (HE7.out.grown hg8 (blk_ne_row HE7.out HO7.out (by decide)))
                    have HL8 := Lib.hid (HL7.out.grown hg8 (blk_ne_row HL7.out HO7.out (by decide)))
                    have HB8 := Lib.hid (HB7.out.grown hg8 HB7.out.size (fun k hk => Ownv.ob' HO7.out hk))
                    have HO8 := Lib.hid (Own.of_eq (k := .u8) (xs := jD b L k ++ s.xs.take N) hO8 rfl (by rw [List.map_append]))
                    clear hO8 hg8
                    have hS2 := mkS w8 HT8.out HL8.out
                    refine hK _ _ hS2 ?_
                    clear hK K
                    have t0 := hS2.1
                    have t1 := hS2.2.1
                    refine P_one 9 #[true, true, true, true, true, true, true, true, true, true] rfl (by kernel_rfl) (by kernel_rfl) rfl (by kernel_rfl) (fun K hK => ?_)
                    go_simp
                    refine hK _ _ ?_
                    clear hK K t0 t1
                    refine P_done (by kernel_rfl) ?_ _
                    refine noPanic_normal ?_
                    have HT9 := Lib.hid (HT8.out.set 0 (.slice A8 (no + N) c8))
                    have HE9 := Lib.hid (HE8.out.other hne' 0 (.slice A8 (no + N) c8))
                    have HL9 := Lib.hid (HL8.out.other (Blk.ne HT8.out HL8.out (by decide)) 0 (.slice A8 (no + N) c8))
                    have HO9 := Lib.hid (own_set_blk HT8.out HO8.out (by decide) 0 (.slice A8 (no + N) c8))
                    have HB9 := Lib.hid (HB8.out.setCell (p := ⟨TB, 0, none⟩) hT0 (.slice A8 (no + N) c8))
                    clear hS0 hS1 hS2 mkS
                    go_wp2
                    go_roundw
                    case rel => exact ⟨k + 1, A8, no + N, c8, by omega, by go_num, HT9.out, HE9.out, HL9.out, Own.of_eq (k := .u8) HO9.out rfl (by rw [jD_succ HGS.out, HNE.out]), HB9.out, fun h => absurd hb6 h⟩
                    case measure => simp [intOf]; omega
                  · have ek : ck b = 24 := by unfold ck; rw [if_neg hb6]
                    have HIF := Lib.hid (show (if (1 : Int) < (bC b : Int) then (24 : Int) else 0) = 24 from if_pos (by have := bC_two hb6; omega))
                    obtain ⟨N, hN⟩ : ∃ N, N = s.n - 24 := ⟨_, rfl⟩
                    have HNE := Lib.hid (show s.n - ck b = N by omega)
                    have hsl : ∀ W, (Instr.sliceAt 25 (.slice s.A s.n s.c) none (some (.int .i64 ((s.n : Int) - 24))) none).run Tryz.prog W = .ok (.slice s.A N s.c) W := fun W => by
                      rw [show (s.n : Int) - 24 = ((N : Nat) : Int) by omega]; exact Rdv.slh hR0 el53 .i64 (by omega) W
                    have HRN := Lib.hid (show Rd .u8 w s.A N s.c (s.xs.take N) from Rd.upto hR0 (by omega))
                    have hnoN : no + N ≤ 80000 := by omega
                    have hN6 : N ≤ 6144 := by omega
                    have hs6 : s.n ≤ 6144 := by omega
                    have hs24 : 24 ≤ s.n := by omega
                    have hwr : IntKind.i64.wrap ((s.n : Int) - 24) = (s.n : Int) - 24 := by rw [IntKind.wrap_i64]; omega
                    have HNO := Lib.hid hno
                    clear hno
                    have hckA := Lib.hid (fun W h => check_any 2 s.A s.n s.c s.xs W h (by omega))
                    have HR4 := Lib.hid hR0
                    by_cases hch : chkErr 2 s.xs = 0
                    · have HCH := Lib.hid hch
                      rw [hch] at hckA
                      clear hgs hsn hs100 hszz hmo hst hR hR0 hcap ek hN hch
                      go_wp2_with (first
                        | (go_at_call 49; refine (check_lay _ _ _ _ _ _ _ _).mono ?_; rintro e w4 ⟨he, hB5⟩; rw [HIF.out] at he; subst he; have HTX := Lib.hid (HT4.out.below hB5); have HEX := Lib.hid (HE4.out.below hB5); have HLX := Lib.hid (HL4.out.below hB5); have HOX := Lib.hid (Ownv.below HO4.out hB5); have HBX := Lib.hid (HB4.out.trans (hB5.mono HB4.out.size)); clear hB5)
                        | (go_at_call 38; refine (hckA.out _ (Rdv.below HR4.out HBX.out)).mono ?_; rintro e w5 ⟨Ac, nc, cc, rfl, hOc, hB6⟩; have HTX := Lib.hid (HTX.out.below hB6); have HEX := Lib.hid (HEX.out.below hB6); have HLX := Lib.hid (HLX.out.below hB6); have HOX := Lib.hid (Ownv.below HOX.out hB6); have HBX := Lib.hid (HBX.out.trans (hB6.mono HBX.out.size)); clear hOc hB6)
                        | (go_at_call 44; refine (must_ok _ _).mono ?_; rintro e w' ⟨rfl, rfl⟩))
                      refine wp_nopanic ?_
                      have mkS : ∀ W', Blk W' TB 25 [.slice Ao no co] → Blk W' LB 79 [.int .i64 b, .int .i64 (bC b : Int), .int .i64 (lo b : Int), .int .i64 (sh b : Int), .int .i64 (los b : Int), .int .i64 (shs b : Int), .int .i64 (fi b : Int)] → (fun W' => W'.cell? ⟨TB, 0, none⟩ = some (.slice Ao no co) ∧ W'.frozen? ⟨TB, 0, none⟩ = false ∧ W'.cell? ⟨LB, 0, none⟩ = some (.int .i64 b) ∧ W'.cell? ⟨LB, 1, none⟩ = some (.int .i64 (bC b : Int)) ∧ W'.cell? ⟨LB, 2, none⟩ = some (.int .i64 (lo b : Int)) ∧ W'.cell? ⟨LB, 3, none⟩ = some (.int .i64 (sh b : Int)) ∧ W'.cell? ⟨LB, 4, none⟩ = some (.int .i64 (los b : Int)) ∧ W'.cell? ⟨LB, 5, none⟩ = some (.int .i64 (shs b : Int)) ∧ W'.cell? ⟨LB, 6, none⟩ = some (.int .i64 (fi b : Int))) W' := fun W' g1 g2 => ⟨g1.cell (j := 0) rfl, g1.frozen 0, (Blk.seven g2).1⟩
                      have hS0 := mkS w5.drew HTX.out HLX.out
                      refine P_start (fun W' => W'.cell? ⟨TB, 0, none⟩ = some (.slice Ao no co) ∧ W'.frozen? ⟨TB, 0, none⟩ = false ∧ W'.cell? ⟨LB, 0, none⟩ = some (.int .i64 b) ∧ W'.cell? ⟨LB, 1, none⟩ = some (.int .i64 (bC b : Int)) ∧ W'.cell? ⟨LB, 2, none⟩ = some (.int .i64 (lo b : Int)) ∧ W'.cell? ⟨LB, 3, none⟩ = some (.int .i64 (sh b : Int)) ∧ W'.cell? ⟨LB, 4, none⟩ = some (.int .i64 (los b : Int)) ∧ W'.cell? ⟨LB, 5, none⟩ = some (.int .i64 (shs b : Int)) ∧ W'.cell? ⟨LB, 6, none⟩ = some (.int .i64 (fi b : Int))) 9 10 #[false, false, false, false, false, false, false, false, false, false] (by kernel_rfl) (by kernel_rfl) (by kernel_rfl) ?_
                      refine P_takeW 1 78 (.slice s.A s.n s.c) #[false, true, false, false, false, false, false, false, false, false] rfl rfl (by kernel_rfl) (by kernel_rfl) (by kernel_rfl) (by kernel_rfl) (by decide) (fun _ _ _ h => h) (Or.inl ⟨by rfl, fun W hS => by go_simp⟩) hS0 ?_
                      simp only [List.setIfInBounds_toArray, List.set_cons_zero, List.set_cons_succ]
                      refine P_takeW 2 79 (.slice s.A s.n s.c) #[false, true, true, false, false, false, false, false, false, false] rfl rfl (by kernel_rfl) (by kernel_rfl) (by kernel_rfl) (by kernel_rfl) (by decide) (fun _ _ _ h => h) (Or.inl ⟨by rfl, fun W hS => by go_simp⟩) hS0 ?_
                      simp only [List.setIfInBounds_toArray, List.set_cons_zero, List.set_cons_succ]
                      refine P_takeW 3 80 (.int .i64 s.n) #[false, true, true, true, false, false, false, false, false, false] rfl rfl (by kernel_rfl) (by kernel_rfl) (by kernel_rfl) (by kernel_rfl) (by decide) (fun _ _ _ h => h) (Or.inl ⟨by rfl, fun W hS => by go_simp⟩) hS0 ?_
                      simp only [List.setIfInBounds_toArray, List.set_cons_zero, List.set_cons_succ]
                      refine P_take 0 77 (.slice Ao no co) #[true, true, true, true, false, false, false, false, false, false] rfl rfl (by kernel_rfl) (by kernel_rfl) (by kernel_rfl) (by kernel_rfl) (by kernel_rfl) (by kernel_rfl) (by decide) (fun _ _ _ h => h) (Or.inl ⟨by rfl, fun W hS => by obtain ⟨s0, s1, s2, s3, s4, s5, s6, s7, s8⟩ := hS; go_simp⟩) hS0 ?_
                      simp only [List.setIfInBounds_toArray, List.set_cons_zero, List.set_cons_succ]
                      refine P_take 4 81 (.agg #[.int .i64 b, .int .i64 (bC b : Int), .int .i64 (lo b : Int), .int .i64 (sh b : Int), .int .i64 (los b : Int), .int .i64 (shs b : Int), .int .i64 (fi b : Int)]) #[true, true, true, true, true, false, false, false, false, false] rfl rfl (by kernel_rfl) (by kernel_rfl) (by kernel_rfl) (by kernel_rfl) (by kernel_rfl) (by kernel_rfl) (by decide) (fun _ _ _ h => h) (Or.inl ⟨by rfl, fun W hS => by obtain ⟨s0, s1, s2, s3, s4, s5, s6, s7, s8⟩ := hS; go_simp⟩) hS0 ?_
                      simp only [List.setIfInBounds_toArray, List.set_cons_zero, List.set_cons_succ]
                      refine P_oneS 5 #[true, true, true, true, true, true, false, false, false, false] rfl (by kernel_rfl) (by kernel_rfl) rfl (fun K hK => ?_)
                      go_simp
                      refine (check_lay _ _ _ _ _ _ _ _).mono ?_
                      rintro e w7 ⟨he, hB7⟩
                      rw [HIF.out] at he
                      subst he
                      have HT7 := Lib.hid ((Blk.drew HTX.out).below hB7)
                      have HE7 := Lib.hid ((Blk.drew HEX.out).below hB7)
                      have HL7 := Lib.hid ((Blk.drew HLX.out).below hB7)
                      have HO7 := Lib.hid (Ownv.below (Ownv.drew HOX.out) hB7)
                      have HB7 := Lib.hid (HBX.out.trans (((Below.refl w5.heap.size w5).drew.trans hB7).mono HBX.out.size))
                      have hS1 := mkS w7 HT7.out HL7.out
                      refine hK _ _ hS1 ?_
                      clear hK K hB7
                      refine P_takeW 6 83 (.int .i64 ((s.n : Int) - 24)) #[true, true, true, true, true, true, true, false, false, false] rfl rfl (by kernel_rfl) (by kernel_rfl) (by kernel_rfl) (by kernel_rfl) (by decide) (fun _ _ _ h => h) (Or.inl ⟨by rfl, fun W hS => by go_simp⟩) hS1 ?_
                      simp only [List.setIfInBounds_toArray, List.set_cons_zero, List.set_cons_succ]
                      refine P_takeW 7 84 (.slice s.A N s.c) #[true, true, true, true, true, true, true, true, false, false] rfl rfl (by kernel_rfl) (by kernel_rfl) (by kernel_rfl) (by kernel_rfl) (by decide) (fun _ _ _ h => h) (Or.inl ⟨by rfl, fun W hS => by go_simp⟩) hS1 ?_
                      simp only [List.setIfInBounds_toArray, List.set_cons_zero, List.set_cons_succ]
                      refine P_oneS 8 #[true, true, true, true, true, true, true, true, true, false] rfl (by kernel_rfl) (by kernel_rfl) rfl (fun K hK => ?_)
                      refine wp_app (base := w.heap.size) (.tmp 77) (.tmp 84) 25 rfl el53 rfl rfl HO7.out (Rdv.below HRN.out HB7.out) (oneCell_ints .u8 _) (by omega) (by unfold maxLen; omega) HB7.out.size ?_
                      intro A8 c8 w8 hO8 hg8
                      have HT8 := Lib.hid (HT7.out.grown hg8 (blk_ne_row HT7.out HO7.out (by decide)))
                      have HE8 := Lib.hid (HE7.out.grown hg8 (blk_ne_row HE7.out HO7.out (by decide)))
                      have HL8 := Lib.hid (HL7.out.grown hg8 (blk_ne_row HL7.out HO7.out (by decide)))
                      have HB8 := Lib.hid (HB7.out.grown hg8 HB7.out.size (fun k hk => Ownv.ob' HO7.out hk))
                      have HO8 := Lib.hid (Own.of_eq (k := .u8) (xs := jD b L k ++ s.xs.take N) hO8 rfl (by rw [List.map_append]))
                      clear hO8 hg8
                      have hS2 := mkS w8 HT8.out HL8.out
                      refine hK _ _ hS2 ?_
                      clear hK K
                      have t0 := hS2.1
                      have t1 := hS2.2.1
                      refine P_one 9 #[true, true, true, true, true, true, true, true, true, true] rfl (by kernel_rfl) (by kernel_rfl) rfl (by kernel_rfl) (fun K hK => ?_)
                      go_simp
                      refine hK _ _ ?_
                      clear hK K t0 t1
                      refine P_done (by kernel_rfl) ?_ _
                      refine noPanic_normal ?_
                      have HT9 := Lib.hid (HT8.out.set 0 (.slice A8 (no + N) c8))
                      have HE9 := Lib.hid (HE8.out.other hne' 0 (.slice A8 (no + N) c8))
                      have HL9 := Lib.hid (HL8.out.other (Blk.ne HT8.out HL8.out (by decide)) 0 (.slice A8 (no + N) c8))
                      have HO9 := Lib.hid (own_set_blk HT8.out HO8.out (by decide) 0 (.slice A8 (no + N) c8))
                      have HB9 := Lib.hid (HB8.out.setCell (p := ⟨TB, 0, none⟩) hT0 (.slice A8 (no + N) c8))
                      clear hS0 hS1 hS2 mkS
                      go_wp2
                      go_roundw
                      case rel => exact ⟨k + 1, A8, no + N, c8, by omega, by go_num, HT9.out, HE9.out, HL9.out, Own.of_eq (k := .u8) HO9.out rfl (by rw [jD_succ HGS.out, HNE.out]), HB9.out, fun _ q t hq hqt => by
                        rcases Nat.lt_succ_iff_lt_or_eq.1 hq with hq | rfl
                        · exact HC.out hb6 q t hq hqt
                        · rw [HGS.out] at hqt; cases hqt; exact HCH.out⟩
                      case measure => simp [intOf]; omega
                    · have HJ := Lib.hid (jErr_c (b := b) HJV.out HRL.out.len HJS.out HJF1.out hb6 (jC_f HGS.out hch))
                      have hce : chkErr 2 s.xs = 11 := by
                        have hvx : ValidB s.xs = true := (List.all_eq_true.1 HJV.out) s (List.mem_of_getElem? HGS.out)
                        have hl := HLEN.out s (List.mem_of_getElem? HGS.out)
                        unfold chkErr at hch ⊢
                        rw [if_neg (by decide), if_pos hvx, if_neg (by rw [hl]; show ¬ s.n < 24; omega)] at hch ⊢
                        split at hch
                        · exact absurd rfl hch
                        · rename_i h9; rw [if_neg h9]
                      rw [hce] at hckA
                      clear hgs hsn hs100 hszz hmo hst hR hR0 hcap ek hN hch hce
                      go_wp2_with (first
                        | (go_at_call 49; refine (check_lay _ _ _ _ _ _ _ _).mono ?_; rintro e w4 ⟨he, hB5⟩; rw [HIF.out] at he; subst he; have HTX := Lib.hid (HT4.out.below hB5); have HEX := Lib.hid (HE4.out.below hB5); have HBX := Lib.hid (HB4.out.trans (hB5.mono HB4.out.size)); clear hB5)
                        | (go_at_call 38; refine (hckA.out _ (Rdv.below HR4.out HBX.out)).mono ?_; rintro e w5 ⟨Ac, nc, cc, rfl, hOc, hB6⟩; have HTX := Lib.hid (HTX.out.below hB6); have HEX := Lib.hid (HEX.out.below hB6); have HBX := Lib.hid (HBX.out.trans (hB6.mono HBX.out.size)); clear hOc hB6)
                        | (go_at_call 44; refine (must_bad _ _).mono ?_; rintro e w' ⟨rfl, rfl⟩))
                      exact join_end _ w _ TB EB 61 _ (fun _ _ h => jbad_post h HJ.out (by decide)) HTX.out HEX.out HBX.out hT0 hE0 hne _ rfl rfl
                · obtain rfl : k = bC b := by omega
                  have HJ := Lib.hid (jErr_0 (b := b) HJV.out HRL.out.len HJS.out HJF1.out (fun h => jC_t (fun q s hq hqs => HC.out h q s (by have := HRL.out.len; omega) hqs)))
                  have hfo : fi b ≤ no := by omega
                  have hno8 : no ≤ 80000 := by omega
                  have hrd := Own.rd HO4.out
                  have hcap := Rdv.le hrd
                  have HNO := Lib.hid hno
                  have hsl : ∀ W, (Instr.sliceAt 25 (.slice Ao no co) (some (.int .i64 (fi b : Int))) (some (.int .i64 (no : Int))) (some (.int .i64 (no : Int)))).run Tryz.prog W = .ok (.slice (cut Ao no (fi b)) (no - fi b) (no - fi b)) W := fun W => Rdv.slhm hrd el53 .i64 .i64 .i64 hfo hcap W
                  clear hno hrd hoff
                  go_wp2
                  have HT6 := Lib.hid ((HT4.out.set 0 (.slice (cut Ao no (fi b)) (no - fi b) (no - fi b))).other (g := EB) hne 0 (.int .i64 0))
                  have HE6 := Lib.hid ((HE4.out.other (g := TB) hne' 0 (.slice (cut Ao no (fi b)) (no - fi b) (no - fi b))).set 0 (.int .i64 0))
                  have HO6 := Lib.hid (own_set_blk (HE4.out.other (g := TB) hne' 0 (.slice (cut Ao no (fi b)) (no - fi b) (no - fi b))) (own_set_blk HT4.out HO4.out (by decide) 0 (.slice (cut Ao no (fi b)) (no - fi b) (no - fi b))) (by decide) 0 (.int .i64 0))
                  have HB6 := Lib.hid ((HB4.out.setCell (p := ⟨TB, 0, none⟩) hT0 (.slice (cut Ao no (fi b)) (no - fi b) (no - fi b))).setCell (p := ⟨EB, 0, none⟩) hE0 (.int .i64 0))
                  clear t0 t1 e0 e1 c0 c1 c2 c3 c4 c5 c6
                  generalize (wr.setCell ⟨TB, 0, none⟩ (.slice (cut Ao no (fi b)) (no - fi b) (no - fi b))).setCell ⟨EB, 0, none⟩ (.int .i64 0) = W6 at *
                  refine leaves_cons (f := 41) (args := #[.pointer (some ⟨EB, 0, none⟩), .func (.func 79) #[] #[.pointer (some ⟨TB, 0, none⟩)]]) (by simp) (by simp [go_sem]) ?_
                  refine (caught_idle ⟨EB, 0, none⟩ _ _).mono ?_
                  rintro e u' w'' ⟨rfl, rfl, rfl⟩
                  have l1 := lv53 (HT6.out.cell (j := 0) rfl)
                  have l2 := lv24 (HE6.out.cell (j := 0) rfl)
                  simp [Leaves, settle, results, Tryz.results37, asAddr, l1, l2, Sem.run_bind, Result.andThen]
                  refine ⟨cut Ao no (fi b), no - fi b, no - fi b, by rw [HJ.out], ?_, HB6.out⟩
                  have hjl : (jD b L (bC b)).length = no := Rd.len (Own.rd HO6.out)
                  have hr := Rd.cut_ (Rd.capped (Own.rd HO6.out) (Nat.le_refl no)) (l := fi b) (m := no) hfo (Nat.le_refl _)
                  unfold jRes
                  rw [if_pos HJ.out, HRL.out.len]
                  rw [List.take_take, Nat.min_self, List.take_of_length_le (by rw [hjl]; exact Nat.le_refl _)] at hr
                  exact hr
            · have h1f : No1 (s.xs.take (fi b)) = false := by simpa using h1b
              have HJ := Lib.hid (jErr_f (b := b) HJV.out HRL.out.len HJS.out (by rw [HJF.out]; exact h1f))
              rw [h1f] at HH1
              clear h1b h1f
              go_wp2
              go_still_tail 7, (by kernel_rfl)
              simp only [World.drew_eq]
              go_wp2_with (first
                | (go_at_call 80; refine (HH1.out 1).mono ?_; rintro e w' ⟨rfl, rfl⟩)
                | (go_at_call 44; refine (must_bad _ _).mono ?_; rintro e w' ⟨rfl, rfl⟩))
              exact join_end _ w _ TB EB 60 _ (fun _ _ h => jbad_post h HJ.out (by decide)) (Blk.drewN (HT.out.below HB2.out) 1) (Blk.drewN (HE.out.below HB2.out) 1) (below_drewN (HB.out.trans (HB2.out.mono HB.out.size)) 1) hT0 hE0 hne _ rfl rfl
      · have HJ := Lib.hid (jErr_l (b := b) HJV.out (by rw [HRL.out.len]; exact hnC))
        have hd : ((n : Int) == (bC b : Int)) = false := beq_f (by omega)
        go_wp2_with (go_at_call 44; refine (must_bad _ _).mono ?_; rintro e w' ⟨rfl, rfl⟩)
        exact join_end _ w _ TB EB 60 _ (fun _ _ h => jbad_post h HJ.out (by decide)) HT.out HE.out HB.out hT0 hE0 hne _ rfl rfl
end Go.Proofs.YtcbbkflnenkpgaaGreat

namespace Go.Proofs.YtcbbkflnenkpgaaGreat
open Go.RowKit CM
set_option linter.unusedVariables false
theorem p0 (W : World) : Calls Tryz.prog 39 #[.int .i64 0] W fun e w' => e = .returned (.tuple #[.agg #[.int .i64 0, .int .i64 0, .int .i64 0, .int .i64 0, .int .i64 0, .int .i64 0, .int .i64 0], .int .i64 2]) ∧ Below W.heap.size W w' := plan_top_bad 0 W (by decide)
theorem v528 (W : World) : Calls Tryz.prog 51 #[.int .i64 528] W fun e w' => e = .returned (.bool true) ∧ Below W.heap.size W w' := valid_seg 528 W
theorem v520 (W : World) : Calls Tryz.prog 51 #[.int .i64 520] W fun e w' => e = .returned (.bool false) ∧ Below W.heap.size W w' := valid_seg 520 W
/-- the block of the example -/
def b40 : List Int := [0, 0] ++ List.replicate 38 1
theorem segs38 : segs 38 (List.replicate (fi 38) 0 ++ List.replicate 38 1) (bC 38) = [b40] := by decide
def SpW (w : World) (e : Ending) (w' : World) : Prop := ∃ A' c' s, e = .returned (.tuple #[.slice A' 1 c', .int .i64 0]) ∧ BL w' w.heap.size A' c' [s] ∧ s.xs = b40 ∧ Below w.heap.size w w'
theorem sp38 (A : Option Addr) (W : World) (h : Rd .u8 W A 38 38 (List.replicate 38 1)) : Calls Tryz.prog 19 #[.slice A 38 38] W (SpW W) := by
  refine (split_ok A 38 38 (List.replicate 38 1) W h (by decide) (by decide) (by decide)).mono ?_
  rintro e w' ⟨A', c', L, rfl, hBL, hxs, hB⟩
  rw [segs38] at hxs
  have hl := congrArg List.length hxs
  simp only [List.length_map, List.length_singleton] at hl
  obtain ⟨s, rfl⟩ := List.length_eq_one_iff.1 hl
  have hx : s.xs = b40 := by simpa using hxs
  exact ⟨A', c', s, rfl, hBL, hx, hB⟩
theorem jerr38 (s : Sv) (h : s.xs = b40) (hn : s.n = 40) : jErr 38 [s] = 0 ∧ jRes 38 [s] = List.replicate 38 1 := by
  have e : jErr 38 [s] = 0 := jErr_0 (by unfold jV; simp [h]; decide) (by show 1 = _; decide) (by unfold jS; simp [hn]; decide) (by unfold jF; simp [h]; decide) (fun h9 => absurd (by decide) h9)
  refine ⟨e, ?_⟩
  unfold jRes
  rw [if_pos e]
  simp [jD, hn, h]
  decide
theorem jerr37 (s : Sv) (h : s.xs = b40) (hn : s.n = 40) : jErr 37 [s] = 60 :=
  jErr_f (by unfold jV; simp [h]; decide) (by show 1 = _; decide) (by unfold jS; simp [hn]; decide) (by unfold jF; simp [h]; decide)
end Go.Proofs.YtcbbkflnenkpgaaGreat

namespace Go.Proofs.YtcbbkflnenkpgaaGreat
open Go.RowKit CM
set_option linter.unusedVariables false
theorem byt_set {xs : List Int} {j : Nat} {v : Int} (h : Byt xs) (hv : 0 ≤ v ∧ v < 256) : Byt (xs.set j v) := fun x hx => by
  rcases List.mem_or_eq_of_mem_set hx with hx | rfl
  · exact h x hx
  · exact hv
theorem byt_zeros (n : Nat) : Byt (List.replicate n 0) := fun x hx => by rw [List.mem_replicate] at hx; rw [hx.2]; decide
def PbInv (w : World) (cs : List Value) (n : Nat) (A : Option Addr) (x i : Value) (wr : World) : Prop := ∃ (j : Nat) (v : Int) (xs : List Int), j ≤ n ∧ i = .int .i64 j ∧ x = .int .u32 v ∧ Own .u8 5 wr w.heap.size A n n xs ∧ Byt xs ∧ Below w.heap.size w wr ∧ Blk wr w.heap.size 85288 cs
def PbPost (w : World) (e : Ending) (w' : World) : Prop := ∃ (n : Nat) (A : Option Addr) (xs : List Int), n ≤ 30000 ∧ e = .returned (.slice A n n) ∧ Own .u8 5 w' w.heap.size A n n xs ∧ Byt xs ∧ Below w.heap.size w w'
theorem pat_len (l : Int) : ∃ n : Nat, n ≤ 30000 ∧ (n : Int) = max 0 (min 30000 l) := ⟨(max 0 (min 30000 l)).toNat, by omega, by omega⟩
end Go.Proofs.YtcbbkflnenkpgaaGreat

namespace Go.Proofs.YtcbbkflnenkpgaaGreat
open Go.RowKit CM
set_option linter.unusedVariables false
set_option maxRecDepth 100000 in
theorem rsplit_bad (A : Option Addr) (n c : Nat) (w : World) (hn : n ≤ 100000) (h : n < 1 ∨ 79560 < n) : Calls Tryz.prog 57 #[.slice A n c] w (SpBad 2 w) := by
  have HP := Lib.hid (fun W => rplan_bad (n : Int) W (by omega))
  simp only [ints8, zero7, List.map_cons, List.map_nil] at HP
  clear h
  go_enter Tryz.func57, Tryz.ntmps57
  go_wp2_with fail
  refine (HP.out _).mono ?_
  rintro e w1 ⟨rfl, hB1⟩
  have HB := Lib.hid (bal hB1 (.cells #[.int .i64 0, .int .i64 0, .int .i64 0, .int .i64 0, .int .i64 0, .int .i64 0, .int .i64 0] 51))
  clear hB1
  go_wp2
  go_ret2
  exact ⟨rfl, HB.out⟩
set_option maxRecDepth 100000 in
theorem rsplit_bit (A : Option Addr) (n c : Nat) (xs : List Int) (w : World) (hx : Rd .u8 w A n c xs) (h1 : 1 ≤ n) (h2 : n ≤ 79560) (hv : ValidB xs = false) : Calls Tryz.prog 57 #[.slice A n c] w (SpBad 3 w) := by
  have HP := Lib.hid (fun W => rplan_ok n W h1 h2)
  unfold RpPost LY at HP
  simp only [ints8, List.map_cons, List.map_nil] at HP
  have HX := Lib.hid hx
  go_enter Tryz.func57, Tryz.ntmps57
  go_wp2_with fail
  refine (HP.out _).mono ?_
  rintro e w1 ⟨rfl, hB1⟩
  have HB := Lib.hid (fun o => bal hB1 o)
  have hb := Lib.hid (fun o => right_any A n c xs (w1.alloc o) (Rdv.alloc (Rdv.below HX.out hB1) o))
  rw [hv] at hb
  clear hB1
  go_wp2_with fail
  refine (hb.out _).mono ?_
  rintro e w' ⟨rfl, rfl⟩
  go_wp2
  go_ret2
  exact ⟨rfl, HB.out _⟩
/-- the error of a Split -/
def sE (xs : List Int) : Int := if xs.length < 1 ∨ 79560 < xs.length then 2 else if ValidB xs = true then 0 else 3
/-- the blocks of a Split -/
def sD (xs : List Int) : List (List Int) := if sE xs = 0 then segs xs.length (List.replicate (fi xs.length) 0 ++ xs) (bC xs.length) else []
structure SpAllS (w : World) (xs : List Int) (w' : World) (A' : Option Addr) (n' c' : Nat) (L : List Sv) : Prop where
  b : BL w' w.heap.size A' c' L
  n : n' = L.length
  l : L.map (·.xs) = sD xs
  y : ∀ s ∈ L, Bit s.xs
  k : Below w.heap.size w w'
def SpAll (xs : List Int) (w : World) (e : Ending) (w' : World) : Prop := ∃ A' n' c' L, e = .returned (.tuple #[.slice A' n' c', .int .i64 (sE xs)]) ∧ SpAllS w xs w' A' n' c' L
theorem segB_bit {b : Nat} {d : List Int} (h : Bit d) : Bit (segB b d) := by
  unfold segB; split
  · exact h
  · exact bit_app h (bit_sum (by decide) h)
theorem segs_bit {b k : Nat} {full : List Int} (h : Bit full) : ∀ d ∈ segs b full k, Bit d := by
  intro d hd
  unfold segs at hd
  obtain ⟨i, _, rfl⟩ := List.mem_map.1 hd
  exact segB_bit (bit_take _ (bit_drop _ h))
theorem SpAll.bad {xs : List Int} {k : Int} {w w' : World} {e : Ending} (h : SpBad k w e w') (hk : sE xs = k) (h0 : k ≠ 0) : SpAll xs w e w' := by
  obtain ⟨rfl, hB⟩ := h
  exact ⟨none, 0, 0, [], by rw [hk], BL.nil _ _, rfl, by unfold sD; rw [if_neg (by rw [hk]; exact h0)]; rfl, by simp, hB⟩
theorem SpAll.ok {xs : List Int} {w w' : World} {A' : Option Addr} {c' : Nat} {L : List Sv} (hb : Bit xs) (hE : sE xs = 0) (hBL : BL w' w.heap.size A' c' L) (hxs : L.map (·.xs) = segs xs.length (List.replicate (fi xs.length) 0 ++ xs) (bC xs.length)) (hB : Below w.heap.size w w') : SpAll xs w (.returned (.tuple #[.slice A' L.length c', .int .i64 0])) w' := by
  refine ⟨A', L.length, c', L, by rw [hE], hBL, rfl, by unfold sD; rw [if_pos hE]; exact hxs, fun s hs => ?_, hB⟩
  have h1 : s.xs ∈ L.map (·.xs) := List.mem_map.2 ⟨s, hs, rfl⟩
  rw [hxs] at h1
  exact segs_bit (bit_app (bit_zeros _) hb) _ h1
theorem split_all (A : Option Addr) (n c : Nat) (xs : List Int) (w : World) (hx : Rd .u8 w A n c xs) (hy : Byt xs) : Calls Tryz.prog 19 #[.slice A n c] w (SpAll xs w) := by
  have hl := hx.len
  by_cases h : n < 1 ∨ 79560 < n
  · exact (split_bad A n c w h).mono fun e w' he => SpAll.bad he (by unfold sE; rw [hl, if_pos h]) (by decide)
  · by_cases hv : ValidB xs = true
    · have hE : sE xs = 0 := by unfold sE; rw [hl, if_neg h, if_pos hv]
      refine (split_ok A n c xs w hx (by omega) (by omega) hv).mono ?_
      rintro e w' ⟨A', c', L, rfl, hBL, hxs, hB⟩
      exact SpAll.ok (bit_of (fun x hx => (hy x hx).1) hv) hE hBL (by rw [hl]; exact hxs) hB
    · have hf : ValidB xs = false := by simpa using hv
      exact (split_bit A n c xs w hx (by omega) (by omega) hf).mono fun e w' he => SpAll.bad he (by unfold sE; rw [hl, if_neg h, if_neg hv]) (by decide)
theorem rsplit_all (A : Option Addr) (n c : Nat) (xs : List Int) (w : World) (hx : Rd .u8 w A n c xs) (hy : Byt xs) (hn : n ≤ 100000) : Calls Tryz.prog 57 #[.slice A n c] w (SpAll xs w) := by
  have hl := hx.len
  by_cases h : n < 1 ∨ 79560 < n
  · exact (rsplit_bad A n c w hn h).mono fun e w' he => SpAll.bad he (by unfold sE; rw [hl, if_pos h]) (by decide)
  · by_cases hv : ValidB xs = true
    · have hE : sE xs = 0 := by unfold sE; rw [hl, if_neg h, if_pos hv]
      have hb := bit_of (fun x hx => (hy x hx).1) hv
      refine (rsplit_ok A n c xs w hx (by omega) (by omega) hb).mono ?_
      rintro e w' ⟨A', c', L, rfl, hBL, hxs, hB⟩
      exact SpAll.ok hb hE hBL (by rw [hl]; exact hxs) hB
    · have hf : ValidB xs = false := by simpa using hv
      exact (rsplit_bit A n c xs w hx (by omega) (by omega) hf).mono fun e w' he => SpAll.bad he (by unfold sE; rw [hl, if_neg h, if_neg hv]) (by decide)
end Go.Proofs.YtcbbkflnenkpgaaGreat

namespace Go.Proofs.YtcbbkflnenkpgaaGreat
open Go.RowKit CM
set_option linter.unusedVariables false
def RjsInv (W : World) (n b : Nat) (L : List Sv) (i : Value) (wr : World) : Prop := ∃ j : Nat, j ≤ n ∧ i = .int .i64 j ∧ (∀ q s, q < j → L[q]? = some s → s.n = sz b q) ∧ Qt W wr
def RjfInv (f : Nat) (xs : List Int) (i : Value) : Prop := ∃ j : Nat, j ≤ f ∧ i = .int .i64 j ∧ ∀ q, q < j → gi xs q = 0
/-- the bits of the first k blocks without the filler bits -/
def rD (b : Nat) (L : List Sv) (k : Nat) : List Int := (jD b L k).drop (fi b)
def RjInv (w : World) (b LB : Nat) (lay : List Int) (L : List Sv) (out i : Value) (wr : World) : Prop := ∃ (k : Nat) (Ao : Option Addr) (no co : Nat), k ≤ bC b ∧ i = .int .i64 k ∧ out = .slice Ao no co ∧ no = off b k - fi b ∧ Own .u8 5 wr w.heap.size Ao no co (rD b L k) ∧ Blk wr LB 51 (ints8 lay) ∧ Below w.heap.size w wr ∧ (¬ b ≤ 6144 → ∀ q s, q < k → L[q]? = some s → chkErr 2 s.xs = 0)
theorem gi_take (xs : List Int) {j m : Nat} (h : j < m) : gi (xs.take m) j = gi xs j := by simp [gi, List.getD, List.getElem?_take, h]
theorem rD_zero {b : Nat} {L : List Sv} : rD b L 0 = [] := by simp [rD, jD]
theorem rD_one {b : Nat} {L : List Sv} {s : Sv} (h : L[0]? = some s) : rD b L (0 + 1) = (s.xs.take (s.n - ck b)).drop (fi b) := by
  unfold rD; rw [jD_succ h]; simp [jD]
theorem rD_succ {b : Nat} {L : List Sv} {k : Nat} {s : Sv} (h : L[k]? = some s) (hf : fi b ≤ (jD b L k).length) : rD b L (k + 1) = rD b L k ++ s.xs.take (s.n - ck b) := by
  unfold rD; rw [jD_succ h, List.drop_append_of_le_length hf]
theorem bit_of_v {xs : List Int} (h : Byt xs) (hv : ValidB xs = true) : Bit xs := fun x hx => by
  have h1 := (List.all_eq_true.1 hv) x hx
  have h2 := h x hx
  simp only [decide_eq_true_eq] at h1
  omega
end Go.Proofs.YtcbbkflnenkpgaaGreat

namespace Go.Proofs.YtcbbkflnenkpgaaGreat
open Go.RowKit CM
set_option linter.unusedVariables false
/-- the error of a Join -/
def jE (b : Int) (L : List Sv) : Int := if b < 1 ∨ 79560 < b then 2 else jErr b.toNat L
/-- the bits of a Join -/
def jR (b : Int) (L : List Sv) : List Int := if b < 1 ∨ 79560 < b then [] else jRes b.toNat L
def JAll (b : Int) (L : List Sv) (w : World) (e : Ending) (w' : World) : Prop := ∃ A' n' c', e = .returned (.tuple #[.slice A' n' c', .int .i64 (jE b L)]) ∧ Rd .u8 w' A' n' c' (jR b L) ∧ Below w.heap.size w w'
theorem jbad_all {b : Int} {L : List Sv} {w w' : World} {e : Ending} (h : JBad 2 w e w') (hb : b < 1 ∨ 79560 < b) : JAll b L w e w' := by
  obtain ⟨rfl, hB⟩ := h
  refine ⟨none, 0, 0, by rw [jE, if_pos hb], ?_, hB⟩
  rw [jR, if_pos hb]
  exact Rd.nilv _ _
theorem jpost_all {b : Int} {L : List Sv} {w w' : World} {e : Ending} (h : JPost b.toNat L w e w') (hb : ¬ (b < 1 ∨ 79560 < b)) : JAll b L w e w' := by
  obtain ⟨A', n', c', rfl, hR, hB⟩ := h
  refine ⟨A', n', c', by rw [jE, if_neg hb], ?_, hB⟩
  rw [jR, if_neg hb]
  exact hR
theorem join_all (b : Int) (A : Option Addr) (n c : Nat) (L : List Sv) (w : World) (hL : RL w A n c L) (hs : ∀ s ∈ L, s.n ≤ 100000) : Calls Tryz.prog 37 #[.int .i64 b, .slice A n c] w (JAll b L w) := by
  by_cases hb : b < 1 ∨ 79560 < b
  · exact (join_bad b A n c w hb).mono fun e w' he => jbad_all he hb
  · have h := join_any b.toNat A n c L w (by omega) (by omega) hL hs
    rw [show ((b.toNat : Nat) : Int) = b by omega] at h
    exact h.mono fun e w' he => jpost_all he hb
end Go.Proofs.YtcbbkflnenkpgaaGreat

namespace Go.Proofs.YtcbbkflnenkpgaaGreat
open Go.RowKit CM
set_option linter.unusedVariables false
theorem segs_le {b k : Nat} {full : List Int} (h1 : 1 ≤ b) : ∀ d ∈ segs b full k, d.length ≤ 6168 := by
  intro d hd
  unfold segs at hd
  obtain ⟨i, _, rfl⟩ := List.mem_map.1 hd
  have h2 := (sz_ge (i := i) h1).2
  unfold segB
  split
  · rw [List.length_take]; omega
  · rw [List.length_append, crcSum_len, List.length_take, show sLen 2 = 24 from rfl]; omega
theorem sD_le {xs : List Int} : (∀ d ∈ sD xs, d.length ≤ 6168) ∧ (sD xs).length ≤ 13 := by
  unfold sD
  split
  · rename_i h
    have h1 : 1 ≤ xs.length ∧ xs.length ≤ 79560 := by
      unfold sE at h
      split at h
      · cases h
      · omega
    exact ⟨segs_le h1.1, by unfold segs; rw [List.length_map, List.length_range]; exact bC_le h1.2⟩
  · exact ⟨by simp, by simp⟩
theorem SpAllS.le {w w' : World} {xs : List Int} {A' : Option Addr} {n' c' : Nat} {L : List Sv} (h : SpAllS w xs w' A' n' c' L) : ∀ s ∈ L, s.n ≤ 6168 := by
  intro s hs
  have h1 := Rd.len (Own.rd (h.b.r s hs).1)
  have h2 := sD_le.1 s.xs (by rw [← h.l]; exact List.mem_map.2 ⟨s, hs, rfl⟩)
  omega
theorem SpAllS.few {w w' : World} {xs : List Int} {A' : Option Addr} {n' c' : Nat} {L : List Sv} (h : SpAllS w xs w' A' n' c' L) : n' ≤ 13 := by
  have h1 := congrArg List.length h.l
  rw [List.length_map] at h1
  have h2 := sD_le (xs := xs).2
  rw [h.n]; omega
theorem own_of_ne {A B : Option Addr} {n c : Nat} (hA : A ≠ none) (h : some (blk B) ≠ (Value.slice A n c).ownBlock) : some (blk B) ≠ some (blk A) := by
  obtain ⟨a, ha⟩ := Option.ne_none_iff_exists'.1 hA
  rw [ha] at h ⊢
  simpa [Value.ownBlock, blk] using h
section
variable {w : World} {base c : Nat} {A : Option Addr} {L : List Sv}
theorem BL.none_ne (h : BL w base A c L) {k : Nat} (hk : k < L.length) : A ≠ none := by
  rintro rfl
  have := Rdv.nil h.o.rd rfl
  have := Rdv.le h.o.rd
  omega
/-- one value of one row is replaced -/
theorem BL.putv (h : BL w base A c L) {k q : Nat} {r : Sv} (hk : L[k]? = some r) (hq : q < r.n) (u : Int) :
    RL (w.setCell (adr r.A q) (.int .u8 u)) A L.length c (L.set k ⟨r.A, r.n, r.c, r.xs.set q u⟩) ∧ w.grownBy (w.setCell (adr r.A q) (.int .u8 u)) (some (blk r.A)) := by
  have hr := h.r r (List.mem_of_getElem? hk)
  have h2 := Own.set_ hr.1 hq u
  obtain ⟨hkl, hke⟩ := List.getElem?_eq_some_iff.1 hk
  have hmap : (L.set k ⟨r.A, r.n, r.c, r.xs.set q u⟩).map Sv.v = L.map Sv.v := by
    apply List.ext_getElem?
    intro j
    rw [List.getElem?_map, List.getElem?_map, List.getElem?_set]
    split
    · rename_i he; subst he; rw [hk]; rfl
    · rfl
  refine ⟨⟨by rw [hmap]; exact (h.o.grown h2.2 (fun hA => own_of_ne hr.2 (rows_ne h.o hr.1 (by decide) hA))).rd, fun s hs => ?_⟩, h2.2⟩
  obtain ⟨j, hj, he⟩ := List.getElem_of_mem hs
  rw [List.getElem_set] at he
  have hj' : j < L.length := by simpa using hj
  split at he
  · subst he; exact Own.rd h2.1
  · rename_i hne
    subst he
    refine Own.rd (Ownv.grown (h.r _ (List.getElem_mem hj')).1 h2.2 (fun _ he => ?_))
    have he := Option.some.inj he
    have hp := List.pairwise_iff_getElem.1 h.p
    rcases Nat.lt_or_gt_of_ne hne with h3 | h3
    · exact hp k j hkl hj' h3 (by rw [hke]; exact he.symm)
    · exact hp j k hj' hkl h3 (by rw [hke]; exact he)
/-- one row is replaced -/
theorem BL.putr (h : BL w base A c L) {k base' : Nat} {r : Sv} (hk : k < L.length) (hr : Own .u8 5 w base' r.A r.n r.c r.xs) :
    RL (w.setCell (adr A k) (.slice r.A r.n r.c)) A L.length c (L.set k r) ∧ w.grownBy (w.setCell (adr A k) (.slice r.A r.n r.c)) (some (blk A)) := by
  have h2 := Ownv.set_ h.o hk (Sv.v r)
  have hA := h.none_ne hk
  refine ⟨⟨by rw [List.map_set]; exact h2.1.rd, fun s hs => ?_⟩, h2.2⟩
  rcases List.mem_or_eq_of_mem_set hs with hs | rfl
  · exact Own.rd (Ownv.grown (h.r s hs).1 h2.2 (fun hB => own_of_ne hA (rows_ne (h.r s hs).1 h.o (by decide) hB)))
  · exact Own.rd (Ownv.grown hr h2.2 (fun hB => own_of_ne hA (rows_ne hr h.o (by decide) hB)))
end
end Go.Proofs.YtcbbkflnenkpgaaGreat

namespace Go.Proofs.YtcbbkflnenkpgaaGreat
open Go.RowKit CM
set_option linter.unusedVariables false
def PbI5 (w : World) (cs : List Value) (n : Nat) (A : Option Addr) (x i : Value) (wr : World) : Prop := ∃ (j : Nat) (v : Int) (xs : List Int), j ≤ n ∧ i = .int .i64 j ∧ x = .int .u32 v ∧ Own .u8 5 wr w.heap.size A n n xs ∧ Byt xs ∧ Below w.heap.size w wr ∧ Blk wr w.heap.size 24 cs
def PbP5 (w : World) (e : Ending) (w' : World) : Prop := ∃ (n : Nat) (A : Option Addr) (xs : List Int), n ≤ 13000 ∧ e = .returned (.slice A n n) ∧ Own .u8 5 w' w.heap.size A n n xs ∧ Byt xs ∧ Below w.heap.size w w'
set_option maxRecDepth 100000 in
set_option maxHeartbeats 1000000 in
theorem bits15_any (l s a y : Int) (w : World) (hy : 0 ≤ y ∧ y < 256) : Calls Tryz.prog 7 #[.agg #[.int .i64 l, .int .u32 s, .int .i64 a, .int .u8 y]] w (PbP5 w) := by
  have HY := Lib.hid hy
  clear hy
  have hK0 := Blk.new w [.int .i64 l, .int .u32 s, .int .i64 a, .int .u8 y] 24 rfl
  have HB0 := Lib.hid (show Below w.heap.size w (w.alloc (.cells [.int .i64 l, .int .u32 s, .int .i64 a, .int .u8 y].toArray 24)) from (Below.refl _ _).alloc (Nat.le_refl _) _)
  have HK0 := Lib.hid hK0
  clear hK0
  obtain ⟨n, hn, he⟩ : ∃ n : Nat, n ≤ 13000 ∧ ((l ≤ 0 ∧ n = 0) ∨ (0 < l ∧ l < 13000 ∧ l = n) ∨ (13000 ≤ l ∧ n = 13000)) := by
    by_cases h1 : l ≤ 0
    · exact ⟨0, by omega, .inl ⟨h1, rfl⟩⟩
    · by_cases h2 : l < 13000
      · exact ⟨l.toNat, by omega, .inr (.inl ⟨by omega, h2, by omega⟩)⟩
      · exact ⟨13000, by omega, .inr (.inr ⟨by omega, rfl⟩)⟩
  rcases he with ⟨h1, rfl⟩ | ⟨h0, h1, hl⟩ | ⟨h1, rfl⟩
  case inl =>
    go_enter Tryz.func7, Tryz.ntmps7
    go_wp2_with (at_make; refine list_of rfl fun K hK => wp_mk (n := 0) (kl := .i64) (kr := .i64) _ _ 25 rfl el53 rfl rfl (by omega) (by unfold maxLen; omega) ?_; intro A w2 hO hB2 hA; have HO := Lib.hid hO; have HB2 := Lib.hid (HB0.out.trans (hB2.mono HB0.out.size)); have HK2 := Lib.hid (HK0.out.below hB2); have k1 := HK2.out.cell (j := 1) rfl; clear hO hB2; refine hK _ _ ?_; clear hK K)
    have hN3 : 0 ≤ 13000 := by omega
    go_loopw [4, 5] (fun x i wr => PbI5 w [.int .i64 l, .int .u32 s, .int .i64 a, .int .u8 y] 0 A x i wr) (fun _ i _ => 0 - (intOf i).toNat)
    case atStart => exact ⟨0, _, List.replicate 0 0, by omega, rfl, rfl, Own.of_eq (Ownv.mono HO.out (by simp)) rfl (by rw [List.map_replicate]), byt_zeros _, HB2.out, HK2.out⟩
    case round =>
      obtain ⟨j, v, xs, hj, rfl, rfl, hO3, hby, hB3, hK3⟩ := hrel
      have HO3 := Lib.hid hO3
      have HBY := Lib.hid hby
      have HB3 := Lib.hid hB3
      have HK3 := Lib.hid hK3
      clear hO3 hby hB3 hK3
      by_cases hlt : j < 0
      ·
        exact absurd hlt (by omega)
      · have a2 := HK3.out.cell (j := 2) rfl
        have a3 := HK3.out.cell (j := 3) rfl
        by_cases ha : 0 ≤ a ∧ a < 0
        · exact absurd ha (by omega)
        · rcases (by omega : a < 0 ∨ (0 : Int) ≤ a) with ha2 | ha2
          all_goals
            clear ha
            go_wp2
            go_ret
            exact ⟨0, A, xs, hN3, rfl, HO3.out, HBY.out, HB3.out⟩
  case inr.inl =>
    have HL := Lib.hid hl
    have HN := Lib.hid hn
    clear hl hn
    go_enter Tryz.func7, Tryz.ntmps7
    go_wp2_with (at_make; refine list_of rfl fun K hK => wp_mk (n := n) (kl := .i64) (kr := .i64) _ _ 25 rfl el53 (by rw [← HL.out]; rfl) (by rw [← HL.out]; rfl) (by have := HN.out; omega) (by have := HN.out; unfold maxLen; omega) ?_; intro A w2 hO hB2 hA; have HO := Lib.hid hO; have HB2 := Lib.hid (HB0.out.trans (hB2.mono HB0.out.size)); have HK2 := Lib.hid (HK0.out.below hB2); have k1 := HK2.out.cell (j := 1) rfl; clear hO hB2; refine hK _ _ ?_; clear hK K)
    have hn := HN.out
    clear HN h0 h1 HL
    have hN3 : n ≤ 13000 := by omega
    go_loopw [4, 5] (fun x i wr => PbI5 w [.int .i64 l, .int .u32 s, .int .i64 a, .int .u8 y] n A x i wr) (fun _ i _ => n - (intOf i).toNat)
    case atStart => exact ⟨0, _, List.replicate n 0, by omega, rfl, rfl, Own.of_eq (Ownv.mono HO.out (by simp)) rfl (by rw [List.map_replicate]), byt_zeros _, HB2.out, HK2.out⟩
    case round =>
      obtain ⟨j, v, xs, hj, rfl, rfl, hO3, hby, hB3, hK3⟩ := hrel
      have HO3 := Lib.hid hO3
      have HBY := Lib.hid hby
      have HB3 := Lib.hid hB3
      have HK3 := Lib.hid hK3
      clear hO3 hby hB3 hK3
      by_cases hlt : j < n
      ·
        have hix := fun W => Rdv.ix (Own.rd HO3.out) el53 hlt .i64 W
        have hcell := Rd.cell (Own.rd HO3.out) hlt
        have hfz := Ownv.frozen HO3.out (by omega) j
        have HSET := Lib.hid (fun v => Own.set_ HO3.out hlt v)
        have HNE := Lib.hid (blk_ne_row HK3.out HO3.out (by decide))
        have HCE := Lib.hid (Ownv.blk_ge HO3.out (by omega))
        go_wp2
        go_roundw
        case rel => exact ⟨j + 1, _, _, by omega, by go_num, rfl, (HSET.out _).1, byt_set HBY.out (by omega), HB3.out.grown (HSET.out _).2 HB3.out.size (fun k hk => by injection hk with hk; rw [← hk]; exact HCE.out.1), HK3.out.grown (HSET.out _).2 (fun he => own_ne_blk HK3.out HO3.out (by decide) (own_some HO3.out hlt) (Option.some.inj he).symm)⟩
        case measure => simp [intOf]; omega
      · have a2 := HK3.out.cell (j := 2) rfl
        have a3 := HK3.out.cell (j := 3) rfl
        by_cases ha : 0 ≤ a ∧ a < n
        · obtain ⟨q, rfl⟩ : ∃ q : Nat, a = q := ⟨a.toNat, by omega⟩
          have hq : q < n := by omega
          have hix := fun W => Rdv.ix (Own.rd HO3.out) el53 hq .i64 W
          have hcell := Rd.cell (Own.rd HO3.out) hq
          have hfz := Ownv.frozen HO3.out (by omega) q
          have HSET := Lib.hid (Own.set_ HO3.out hq y)
          have HCE := Lib.hid (Ownv.blk_ge HO3.out (by omega))
          clear ha
          go_wp2
          go_ret
          exact ⟨n, A, _, hN3, rfl, HSET.out.1, byt_set HBY.out HY.out, HB3.out.grown HSET.out.2 HB3.out.size (fun k hk => by injection hk with hk; rw [← hk]; exact HCE.out.1)⟩
        · rcases (by omega : a < 0 ∨ (n : Int) ≤ a) with ha2 | ha2
          all_goals
            clear ha
            go_wp2
            go_ret
            exact ⟨n, A, xs, hN3, rfl, HO3.out, HBY.out, HB3.out⟩
  case inr.inr =>
    go_enter Tryz.func7, Tryz.ntmps7
    go_wp2_with (at_make; refine list_of rfl fun K hK => wp_mk (n := 13000) (kl := .i64) (kr := .i64) _ _ 25 rfl el53 rfl rfl (by omega) (by unfold maxLen; omega) ?_; intro A w2 hO hB2 hA; have HO := Lib.hid hO; have HB2 := Lib.hid (HB0.out.trans (hB2.mono HB0.out.size)); have HK2 := Lib.hid (HK0.out.below hB2); have k1 := HK2.out.cell (j := 1) rfl; clear hO hB2; refine hK _ _ ?_; clear hK K)
    obtain ⟨N, hN⟩ : ∃ N : Nat, N = 13000 := ⟨_, rfl⟩
    rw [← hN] at HO ⊢
    have hN3 : N ≤ 13000 := by omega
    clear hN h1
    go_loopw [4, 5] (fun x i wr => PbI5 w [.int .i64 l, .int .u32 s, .int .i64 a, .int .u8 y] N A x i wr) (fun _ i _ => N - (intOf i).toNat)
    case atStart => exact ⟨0, _, List.replicate N 0, by omega, rfl, rfl, Own.of_eq (Ownv.mono HO.out (by simp)) rfl (by rw [List.map_replicate]), byt_zeros _, HB2.out, HK2.out⟩
    case round =>
      obtain ⟨j, v, xs, hj, rfl, rfl, hO3, hby, hB3, hK3⟩ := hrel
      have HO3 := Lib.hid hO3
      have HBY := Lib.hid hby
      have HB3 := Lib.hid hB3
      have HK3 := Lib.hid hK3
      clear hO3 hby hB3 hK3
      by_cases hlt : j < N
      ·
        have hix := fun W => Rdv.ix (Own.rd HO3.out) el53 hlt .i64 W
        have hcell := Rd.cell (Own.rd HO3.out) hlt
        have hfz := Ownv.frozen HO3.out (by omega) j
        have HSET := Lib.hid (fun v => Own.set_ HO3.out hlt v)
        have HNE := Lib.hid (blk_ne_row HK3.out HO3.out (by decide))
        have HCE := Lib.hid (Ownv.blk_ge HO3.out (by omega))
        go_wp2
        go_roundw
        case rel => exact ⟨j + 1, _, _, by omega, by go_num, rfl, (HSET.out _).1, byt_set HBY.out (by omega), HB3.out.grown (HSET.out _).2 HB3.out.size (fun k hk => by injection hk with hk; rw [← hk]; exact HCE.out.1), HK3.out.grown (HSET.out _).2 (fun he => own_ne_blk HK3.out HO3.out (by decide) (own_some HO3.out hlt) (Option.some.inj he).symm)⟩
        case measure => simp [intOf]; omega
      · have a2 := HK3.out.cell (j := 2) rfl
        have a3 := HK3.out.cell (j := 3) rfl
        by_cases ha : 0 ≤ a ∧ a < N
        · obtain ⟨q, rfl⟩ : ∃ q : Nat, a = q := ⟨a.toNat, by omega⟩
          have hq : q < N := by omega
          have hix := fun W => Rdv.ix (Own.rd HO3.out) el53 hq .i64 W
          have hcell := Rd.cell (Own.rd HO3.out) hq
          have hfz := Ownv.frozen HO3.out (by omega) q
          have HSET := Lib.hid (Own.set_ HO3.out hq y)
          have HCE := Lib.hid (Ownv.blk_ge HO3.out (by omega))
          clear ha
          go_wp2
          go_ret
          exact ⟨N, A, _, hN3, rfl, HSET.out.1, byt_set HBY.out HY.out, HB3.out.grown HSET.out.2 HB3.out.size (fun k hk => by injection hk with hk; rw [← hk]; exact HCE.out.1)⟩
        · rcases (by omega : a < 0 ∨ (N : Int) ≤ a) with ha2 | ha2
          all_goals
            clear ha
            go_wp2
            go_ret
            exact ⟨N, A, xs, hN3, rfl, HO3.out, HBY.out, HB3.out⟩
theorem polyN_zero (k : Int) : polyN k = 0 ↔ sLen k = 0 := by rw [polyN_sLen]; split <;> simp_all
theorem err_agree (k : Int) (xs : List Int) : refErr k xs = cErr k xs := by
  unfold refErr cErr
  by_cases h : sLen k = 0
  · rw [if_pos ((polyN_zero k).2 h), if_pos h]
  · rw [if_neg (fun e => h ((polyN_zero k).1 e)), if_neg h]
theorem res_agree (k : Int) {xs : List Int} (h0 : ∀ x ∈ xs, 0 ≤ x) : refRes k xs = cRes k xs := by
  unfold refRes cRes
  by_cases h : sLen k = 0
  · rw [if_pos ((polyN_zero k).2 h), if_pos h]
  · rw [if_neg (fun e => h ((polyN_zero k).1 e)), if_neg h]
    by_cases hv : ValidB xs = true
    · rw [if_pos hv, if_pos hv, sum_agree h (bit_of h0 hv)]
    · rw [if_neg hv, if_neg hv]
theorem rlen_agree (k : Int) : rLen k = (sLen k : Int) := by
  rw [rLen_eq, polyN_sLen]; split <;> simp_all
theorem chkerr_agree (k : Int) {xs : List Int} (h0 : ∀ x ∈ xs, 0 ≤ x) : rChkErr k xs = chkErr k xs := by
  unfold rChkErr chkErr
  by_cases h : sLen k = 0
  · rw [if_pos ((polyN_zero k).2 h), if_pos h]
  · rw [if_neg (fun e => h ((polyN_zero k).1 e)), if_neg h]
    have e1 : polyN k - 1 = sLen k := by rw [polyN_sLen, if_neg h]; omega
    rw [e1]
    by_cases hv : ValidB xs = true
    · rw [if_pos hv, if_pos hv, sum_agree h (bit_of (fun x hx => h0 x (List.mem_of_mem_take hx)) (validB_take _ hv))]
    · rw [if_neg hv, if_neg hv]
theorem chkres_agree (k : Int) {xs : List Int} (h0 : ∀ x ∈ xs, 0 ≤ x) : rChkRes k xs = chkRes k xs := by
  unfold rChkRes chkRes
  rw [chkerr_agree k h0]
  by_cases h : sLen k = 0
  · have e : chkErr k xs ≠ 0 := by rw [chkErr, if_pos h]; decide
    rw [if_neg e, if_neg e]
  · have e1 : polyN k - 1 = sLen k := by rw [polyN_sLen, if_neg h]; omega
    rw [e1]

theorem validB_of_bit {xs : List Int} (h : Bit xs) : ValidB xs = true := validB_t fun q hq => by rcases h _ (gi_mem xs q hq) with h1 | h1 <;> omega
/-- the error of Blocks -/
def bE (xs : List Int) : Int := if xs.length < 1 ∨ 79536 < xs.length then 2 else if ValidB xs = true then 0 else 3
/-- the blocks -/
def bD (xs : List Int) : List (List Int) := if bE xs = 0 then sD (xs ++ crcSum 1 xs) else []
structure BkS (w : World) (xs : List Int) (w' : World) (A' : Option Addr) (n' c' : Nat) (L : List Sv) : Prop where
  b : BL w' w.heap.size A' c' L
  n : n' = L.length
  l : L.map (·.xs) = bD xs
  y : ∀ s ∈ L, Bit s.xs
  k : Below w.heap.size w w'
def BkAll (xs : List Int) (w : World) (e : Ending) (w' : World) : Prop := ∃ A' n' c' L, e = .returned (.tuple #[.slice A' n' c', .int .i64 (bE xs)]) ∧ BkS w xs w' A' n' c' L
theorem BkAll.bad {xs : List Int} {k : Int} {w w' : World} (hB : Below w.heap.size w w') (hk : bE xs = k) (h0 : k ≠ 0) : BkAll xs w (.returned (.tuple #[.slice none 0 0, .int .i64 k])) w' :=
  ⟨none, 0, 0, [], by rw [hk], BL.nil _ _, rfl, by unfold bD; rw [if_neg (by rw [hk]; exact h0)]; rfl, by simp, hB⟩
set_option maxRecDepth 100000 in
set_option maxHeartbeats 1000000 in
theorem rblocks_any (A : Option Addr) (n c : Nat) (xs : List Int) (w : World) (hx : Rd .u8 w A n c xs) (hy : Byt xs) (hn : n ≤ 79536) : Calls Tryz.prog 23 #[.slice A n c] w (BkAll xs w) := by
  have hl := hx.len
  have h1600 : ¬ ((n : Int) > 79536) := by omega
  by_cases h1 : n < 1
  · have hb : bE xs = 2 := by unfold bE; rw [if_pos (by omega)]
    have HBD := Lib.hid (fun w' hB => BkAll.bad (w := w) (w' := w') hB hb (by decide))
    clear hb
    go_enter Tryz.func23, Tryz.ntmps23
    go_wp2
    go_ret2
    exact HBD.out _ (Below.refl _ _)
  · have HRC := Lib.hid (fun W h => rcompute_any 1 A n c xs W h (by omega))
    have er := err_agree 1 xs
    have rr := res_agree 1 (xs := xs) (fun x hx => (hy x hx).1)
    rw [er, rr] at HRC
    by_cases hv : ValidB xs = true
    · have hbit := bit_of (fun x hx => (hy x hx).1) hv
      have hb : bE xs = 0 := by unfold bE; rw [if_neg (by omega), if_pos hv]
      have e1 : cErr 1 xs = 0 := by unfold cErr; rw [if_neg (by decide), if_pos hv]
      have e2 : cRes 1 xs = crcSum 1 xs := by unfold cRes; rw [if_neg (by decide), if_pos hv]
      rw [e1, e2] at HRC
      have hcl : (crcSum 1 xs).length = 24 := by rw [crcSum_len]; rfl
      have hcb : Bit (crcSum 1 xs) := bit_sum (by decide) hbit
      have HSP := Lib.hid (fun X c W h => rsplit_all X (n + 24) c (xs ++ crcSum 1 xs) W h (byt_bit (bit_app hbit hcb)) (by omega))
      have hs : sE (xs ++ crcSum 1 xs) = 0 := by
        unfold sE
        rw [List.length_append, hcl, if_neg (by omega), if_pos (validB_of_bit (bit_app hbit hcb))]
      unfold SpAll at HSP
      rw [hs] at HSP
      unfold BkAll
      have HBD := Lib.hid (show bD xs = sD (xs ++ crcSum 1 xs) by unfold bD; rw [if_pos hb])
      rw [hb]
      have HX := Lib.hid hx
      clear er rr hv hb e1 e2 hs hbit hx hy
      go_enter Tryz.func23, Tryz.ntmps23
      go_wp2_with (first
        | (go_at_call 56; refine (HRC.out w HX.out).mono ?_; rintro e w1 ⟨A1, n1, c1, rfl, hO1, hB1⟩; have hn1 : n1 = 24 := (by have := Rd.len hO1; rw [hcl] at this; exact this.symm); subst hn1; have HR1 := Lib.hid hO1; have HX1 := Lib.hid (Rdv.below HX.out hB1); have HB1 := Lib.hid hB1; clear hO1 hB1)
        | (at_builtin; refine list_of rfl fun K hK => wp_app0 _ _ 25 rfl el53 rfl rfl HX1.out (oneCell_ints .u8 xs) (by omega) ?_; intro A2 c2 w2 hO2 hB2; have HO2 := Lib.hid hO2; have HR2 := Lib.hid (Rdv.below HR1.out hB2); have HB2 := Lib.hid hB2; clear hO2 hB2; refine hK _ _ ?_; clear hK K)
        | (at_builtin; refine list_of rfl fun K hK => wp_app (base := w1.heap.size) _ _ 25 rfl el53 rfl rfl HO2.out HR2.out (oneCell_ints .u8 (crcSum 1 xs)) (by omega) (by unfold maxLen; omega) HB2.out.size ?_; intro A3 c3 w3 hO3 hg3; have HO3 := Lib.hid hO3; have HB3 := Lib.hid (HB2.out.grown hg3 HB2.out.size (fun k hk => Ownv.ob' HO2.out hk)); clear hO3 hg3; refine hK _ _ ?_; clear hK K))
      have hrd : Rd .u8 w3 A3 (n + 24) c3 (xs ++ crcSum 1 xs) := by have h9 := HO3.out.rd; rw [← List.map_append] at h9; exact h9
      refine (HSP.out A3 c3 w3 hrd).mono ?_
      rintro e w4 ⟨A', n', c', L, rfl, hS⟩
      have HS := Lib.hid hS
      have HBW := Lib.hid (HB1.out.trans (HB3.out.mono HB1.out.size))
      clear hS hrd
      go_wp2
      go_ret2
      exact ⟨A', n', c', L, rfl, HS.out.b.mono HBW.out.size, HS.out.n, by rw [HBD.out]; exact HS.out.l, HS.out.y, HBW.out.trans (HS.out.k.mono HBW.out.size)⟩
    · have hb : bE xs = 3 := by unfold bE; rw [if_neg (by omega), if_neg hv]
      have e1 : cErr 1 xs = 3 := by unfold cErr; rw [if_neg (by decide), if_neg hv]
      rw [e1] at HRC
      have HBD := Lib.hid (fun w' hB => BkAll.bad (w := w) (w' := w') hB hb (by decide))
      have HX := Lib.hid hx
      clear er rr hv hb e1 hx hy
      go_enter Tryz.func23, Tryz.ntmps23
      go_wp2_with (go_at_call 56; refine (HRC.out w HX.out).mono ?_; rintro e w1 ⟨A1, n1, c1, rfl, hO1, hB1⟩; have HB1 := Lib.hid hB1; clear hO1 hB1)
      go_ret2
      exact HBD.out _ HB1.out
/-- the error of transport.Join -/
def tE (sz : Int) (L : List Sv) : Int := if sz < 1 ∨ 79536 < sz then 2 else if jE (sz + 24) L = 0 then chkErr 1 (jR (sz + 24) L) else jE (sz + 24) L
def tR (sz : Int) (L : List Sv) : List Int := if sz < 1 ∨ 79536 < sz then [] else if jE (sz + 24) L = 0 then chkRes 1 (jR (sz + 24) L) else []
theorem jErr_inv {b : Nat} {L : List Sv} (h : jErr b L = 0) : jV L = true ∧ L.length = bC b ∧ jS b L = true := by
  unfold jErr at h
  split at h
  · cases h
  · rename_i h1
    split at h
    · cases h
    · rename_i h2
      split at h
      · cases h
      · rename_i h3
        exact ⟨by simpa using h1, by simpa using h2, by simpa using h3⟩
theorem jS_inv {b : Nat} {L : List Sv} (h : jS b L = true) : ∀ q s, L[q]? = some s → s.n = sz b q := by
  intro q s hq
  unfold jS at h
  rw [List.all_eq_true] at h
  have hl := (List.getElem?_eq_some_iff.1 hq).1
  have h1 := h q (List.mem_range.2 hl)
  rw [hq] at h1
  simpa using h1
theorem jR_len {b : Int} {L : List Sv} (hx : ∀ s ∈ L, s.xs.length = s.n) : (jR b L).length ≤ 90000 := by
  unfold jR
  split
  · simp
  · rename_i hb
    unfold jRes
    split
    · rename_i h
      obtain ⟨h1, h2, h3⟩ := jErr_inv h
      rw [List.length_drop, jD_len hx (jS_inv h3) _ (Nat.le_refl _), h2, off_all (by omega)]
      omega
    · simp
theorem tjoin_any (sz : Int) (A : Option Addr) (n c : Nat) (L : List Sv) (w : World) (hL : RL w A n c L) (hs : ∀ s ∈ L, s.n ≤ 100000) :
    Calls Tryz.prog 16 #[.int .i64 sz, .slice A n c] w fun e w' => ∃ A' n' c', e = .returned (.tuple #[.slice A' n' c', .int .i64 (tE sz L)]) ∧ Rd .u8 w' A' n' c' (tR sz L) ∧ Below w.heap.size w w' := by
  have HLY := Lib.hid (fun W => lay_any sz W)
  by_cases h : sz < 1 ∨ 79536 < sz
  · have e1 : tE sz L = 2 := by unfold tE; rw [if_pos h]
    have e2 : tR sz L = [] := by unfold tR; rw [if_pos h]
    have hly : ly15 sz = (zero7, 2) := by unfold ly15; rw [if_pos h]
    rw [e1, e2]
    rw [hly] at HLY
    clear h e1 e2 hly
    simp only [ints8, zero7, List.map_cons, List.map_nil] at HLY
    go_enter Tryz.func16, Tryz.ntmps16
    go_wp2_with fail
    refine (HLY.out _).mono ?_
    rintro e w1 ⟨rfl, hB1⟩
    have HB2 := Lib.hid (bal hB1 (.cells #[.int .i64 0, .int .i64 0, .int .i64 0, .int .i64 0, .int .i64 0, .int .i64 0, .int .i64 0] 51))
    clear hB1
    go_wp2
    go_ret2
    exact ⟨none, 0, 0, rfl, Rd.nilv _ _, HB2.out⟩
  · have hly : ly15 sz = (LY (sz + 24).toNat, 0) := by unfold ly15; rw [if_neg h]
    rw [hly] at HLY
    have hsw : IntKind.i64.wrap (sz + 24) = sz + 24 := by rw [IntKind.wrap_i64]; omega
    have HJ := Lib.hid (fun W h => join_all (sz + 24) A n c L W h hs)
    unfold JAll at HJ
    have hlen := jR_len (b := sz + 24) (L := L) (fun s hs => Rd.len (hL.r s hs))
    have e1 : tE sz L = if jE (sz + 24) L = 0 then chkErr 1 (jR (sz + 24) L) else jE (sz + 24) L := by unfold tE; rw [if_neg h]
    have e2 : tR sz L = if jE (sz + 24) L = 0 then chkRes 1 (jR (sz + 24) L) else [] := by unfold tR; rw [if_neg h]
    rw [e1, e2]
    obtain ⟨ly, hl2⟩ : ∃ ly, ly = LY (sz + 24).toNat := ⟨_, rfl⟩
    have hl7 : ly.length = 7 := by rw [hl2]; rfl
    rw [← hl2] at HLY
    obtain ⟨E, hE⟩ : ∃ E, E = jE (sz + 24) L := ⟨_, rfl⟩
    obtain ⟨X, hX⟩ : ∃ X, X = jR (sz + 24) L := ⟨_, rfl⟩
    rw [← hE, ← hX] at HJ ⊢
    rw [← hX] at hlen
    clear hE hX h hly e1 e2 hl2
    have HL := Lib.hid hL
    clear hL
    by_cases hE0 : E = 0
    · subst hE0
      rw [if_pos rfl, if_pos rfl]
      go_enter Tryz.func16, Tryz.ntmps16
      go_wp2_with fail
      refine (HLY.out _).mono ?_
      rintro e w1 ⟨rfl, hB1⟩
      have hL0 : Blk (w1.alloc (.cells (ints8 zero7).toArray 51)) w1.heap.size 51 (ints8 zero7) := Blk.new w1 _ 51 rfl
      have HB1 := Lib.hid hB1
      clear hB1
      simp only [ints8, zero7, List.map_cons, List.map_nil] at hL0
      go_wp2_with (first
        | (refine strow (cs := ints8 ly) rfl 51 (.tmp 6) (.tmp 13) rfl rfl rfl hL0 (by simp [ints8, hl7]) (by rw [info23]; simp [ints8, hl7]) (ints8_one ly) ?_
           intro W2 g1 g2
           have hq := (Below.refl w1.heap.size w1).alloc (Nat.le_refl _) (.cells #[.int .i64 0, .int .i64 0, .int .i64 0, .int .i64 0, .int .i64 0, .int .i64 0, .int .i64 0] 51)
           have HB2 := Lib.hid (hq.grown g2 hq.size (fun k hk => by cases hk; exact Nat.le_refl _))
           clear g1 g2 hq hL0))
      have d := HB1.out.trans (HB2.out.mono HB1.out.size)
      refine (HJ.out W2 (HL.out.below d)).mono ?_
      rintro e w3 ⟨A3, n3, c3, rfl, hR3, hB3⟩
      have hn3 : n3 ≤ 100000 := by have := hR3.len; omega
      have HR3 := Lib.hid hR3
      have HD := Lib.hid (d.trans (hB3.mono d.size))
      clear d hR3 hB3
      go_wp2_with fail
      refine (check_any 1 A3 n3 c3 X w3 HR3.out hn3).mono ?_
      rintro e w4 ⟨A4, n4, c4, rfl, hO4, hB4⟩
      have HO4 := Lib.hid (Own.rd hO4)
      have HD4 := Lib.hid (HD.out.trans (hB4.mono HD.out.size))
      clear hO4 hB4
      go_wp2
      go_ret2
      exact ⟨A4, n4, c4, rfl, HO4.out, HD4.out⟩
    · rw [if_neg hE0, if_neg hE0]
      have hq : (E != 0) = true := bne_t hE0
      clear hE0
      go_enter Tryz.func16, Tryz.ntmps16
      go_wp2_with fail
      refine (HLY.out _).mono ?_
      rintro e w1 ⟨rfl, hB1⟩
      have hL0 : Blk (w1.alloc (.cells (ints8 zero7).toArray 51)) w1.heap.size 51 (ints8 zero7) := Blk.new w1 _ 51 rfl
      have HB1 := Lib.hid hB1
      clear hB1
      simp only [ints8, zero7, List.map_cons, List.map_nil] at hL0
      go_wp2_with (first
        | (refine strow (cs := ints8 ly) rfl 51 (.tmp 6) (.tmp 13) rfl rfl rfl hL0 (by simp [ints8, hl7]) (by rw [info23]; simp [ints8, hl7]) (ints8_one ly) ?_
           intro W2 g1 g2
           have hq := (Below.refl w1.heap.size w1).alloc (Nat.le_refl _) (.cells #[.int .i64 0, .int .i64 0, .int .i64 0, .int .i64 0, .int .i64 0, .int .i64 0, .int .i64 0] 51)
           have HB2 := Lib.hid (hq.grown g2 hq.size (fun k hk => by cases hk; exact Nat.le_refl _))
           clear g1 g2 hq hL0))
      have d := HB1.out.trans (HB2.out.mono HB1.out.size)
      refine (HJ.out W2 (HL.out.below d)).mono ?_
      rintro e w3 ⟨A3, n3, c3, rfl, hR3, hB3⟩
      have HD := Lib.hid (d.trans (hB3.mono d.size))
      clear d hR3 hB3
      go_wp2
      go_ret2
      exact ⟨none, 0, 0, rfl, Rd.nilv _ _, HD.out⟩
end Go.Proofs.YtcbbkflnenkpgaaGreat

