/-
  Splitting and joining of blocks, both texts; transport.Join, the reference's Blocks; the walk of the statement on the joining. Condition: slices that lie in memory.
-/
import Derived.Test.YtcbbkflnenkpgaaSm
import Derived.Laws.BytesArg
import Derived.Test.YtcbbkflnenkpgaaSy
import Derived.BigQuiet
import Derived.StillTailTactics
import Derived.Test.YtcbbkflnenkpgaaUl
import Derived.Test.YtcbbkflnenkpgaaUv
namespace Go.Proofs.Ytcbbkflnenkpgaa
open Go.RowKit
set_option linter.unusedVariables false
theorem lv55 {W : World} {b : Nat} {A : Option Addr} {n c : Nat} (h : W.cell? ⟨b, 0, none⟩ = some (.slice A n c)) : (loadVar 55 ⟨b, 0, none⟩).run Try.prog W = .ok (.slice A n c) W := by
  simp [go_sem, h]
theorem lv53 {W : World} {b : Nat} {A : Option Addr} {n c : Nat} (h : W.cell? ⟨b, 0, none⟩ = some (.slice A n c)) : (loadVar 53 ⟨b, 0, none⟩).run Try.prog W = .ok (.slice A n c) W := by
  simp [go_sem, h]
set_option maxRecDepth 100000 in
theorem splitc1_any (p : Nat) (v : Value) (w : World) (h : Blk w p 55 [v]) : Calls Try.prog 65 #[.pointer (some ⟨p, 0, none⟩)] w fun e w' => e = .returned (.tuple #[]) ∧ (Blk w' p 55 [.slice none 0 0] ∧ w.grownBy w' (some p)) := by
  have d0 := h.cell (j := 0) rfl
  have g0 := h.frozen 0
  have hF := h.set 0 (.slice none 0 0)
  have HF := Lib.hid hF
  clear hF
  go_enter Try.func65, Try.ntmps65
  go_wp2
  go_end0
  exact ⟨rfl, HF.out, grownBy_set _ _ _ _⟩
set_option maxRecDepth 100000 in
theorem joinc1_any (p : Nat) (v : Value) (w : World) (h : Blk w p 53 [v]) : Calls Try.prog 76 #[.pointer (some ⟨p, 0, none⟩)] w fun e w' => e = .returned (.tuple #[]) ∧ (Blk w' p 53 [.slice none 0 0] ∧ w.grownBy w' (some p)) := by
  have d0 := h.cell (j := 0) rfl
  have g0 := h.frozen 0
  have hF := h.set 0 (.slice none 0 0)
  have HF := Lib.hid hF
  clear hF
  go_enter Try.func76, Try.ntmps76
  go_wp2
  go_end0
  exact ⟨rfl, HF.out, grownBy_set _ _ _ _⟩
def SpBad (k : Int) (w : World) (e : Ending) (w' : World) : Prop := e = .returned (.tuple #[.slice none 0 0, .int .i64 k]) ∧ Below w.heap.size w w'
/-- the end of a Split that has panicked -/
theorem split_end (w w1 : World) (TB EB : Nat) (k : Int) (hT : Blk w1 TB 55 [.slice none 0 0]) (hE : Blk w1 EB 24 [.int .i64 0]) (hB : Below w.heap.size w w1) (hT0 : w.heap.size ≤ TB) (hE0 : w.heap.size ≤ EB) (hne : EB ≠ TB) (ts : Array Value) (h2 : ts.getD 2 undef = .pointer (some ⟨TB, 0, none⟩)) (h3 : ts.getD 3 undef = .pointer (some ⟨EB, 0, none⟩)) :
    Leaves Try.prog Try.f34 ts (SpBad k w) [{ target := .fn (.func 62) #[], args := #[.pointer (some ⟨EB, 0, none⟩), .func (.func 65) #[] #[.pointer (some ⟨TB, 0, none⟩)]] }] (.panicking (pan k)) w1 := by
  refine leaves_cons (f := 62) (args := #[.pointer (some ⟨EB, 0, none⟩), .func (.func 65) #[] #[.pointer (some ⟨TB, 0, none⟩)]]) (by simp) (by simp [go_sem]) ?_
  refine (caught_pan65 ⟨EB, 0, none⟩ _ k _ (fun W => Blk W TB 55 [.slice none 0 0] ∧ w1.grownBy W (some TB)) (splitc1_any TB _ w1 hT) (fun W hW => ?_)).mono ?_
  · have hE2 := hE.grown hW.2 (by intro he; exact hne (Option.some.inj he))
    exact ⟨⟨_, hE2.cell (j := 0) rfl⟩, hE2.frozen 0⟩
  rintro e u' w'' ⟨rfl, rfl, W2, hW2, rfl⟩
  have hE2 := hE.grown hW2.2 (by intro he; exact hne (Option.some.inj he))
  have l1 := lv55 ((hW2.1.other (g := EB) hne 0 (.int .i64 k)).cell (j := 0) (v := .slice none 0 0) rfl)
  have l2 := lv24 ((hE2.set 0 (.int .i64 k)).cell (j := 0) (v := .int .i64 k) rfl)
  have hBe := (hB.grown hW2.2 hB.size (fun k hk => by cases hk; exact hT0)).setCell (p := ⟨EB, 0, none⟩) hE0 (.int .i64 k)
  have HBE := Lib.hid hBe
  clear hBe hW2 hE2 hE hT hB
  have h2' : ts[2]?.getD undef = .pointer (some ⟨TB, 0, none⟩) := by simpa using h2
  have h3' : ts[3]?.getD undef = .pointer (some ⟨EB, 0, none⟩) := by simpa using h3
  simp [Leaves, settle, results, Try.results34, h2', h3', asAddr, l1, l2, Sem.run_bind, Result.andThen]
  exact ⟨rfl, HBE.out⟩
set_option maxRecDepth 100000 in
theorem split_bad (A : Option Addr) (n c : Nat) (w : World) (h : n < 1 ∨ 79560 < n) : Calls Try.prog 34 #[.slice A n c] w (SpBad 2 w) := by
  have hmf : ∀ (fn : Fn) (first cap : Array Value) (w : World), (Instr.makeFunc fn first cap).run Try.prog w = .ok (.func fn first cap) w := fun _ _ _ _ => rfl
  have HH := Lib.hid h
  clear h
  have hT0 : Blk ((w.alloc (.cells #[.slice none 0 0] 55)).alloc (.cells #[.int .i64 0] 24)) w.heap.size 55 [.slice none 0 0] := (Blk.new w [.slice none 0 0] 55 rfl).alloc _
  have hE0 : Blk ((w.alloc (.cells #[.slice none 0 0] 55)).alloc (.cells #[.int .i64 0] 24)) (w.heap.size + 1) 24 [.int .i64 0] := Blk.new _ [.int .i64 0] 24 (by simp)
  have hB0 : Below w.heap.size w ((w.alloc (.cells #[.slice none 0 0] 55)).alloc (.cells #[.int .i64 0] 24)) := ((Below.refl _ _).alloc (Nat.le_refl _) _).alloc (by simp) _
  go_enter_defers Try.func34, Try.ntmps34
  go_wp2_with fail
  generalize (w.alloc (.cells #[.slice none 0 0] 55)).alloc (.cells #[.int .i64 0] 24) = W at *
  refine (plan_bad n W (by have := HH.out; omega)).mono ?_
  rintro e w1 ⟨rfl, hB1⟩
  exact split_end w w1 w.heap.size (w.heap.size + 1) 2 (hT0.below hB1) (hE0.below hB1) (hB0.trans (hB1.mono hB0.size)) (Nat.le_refl _) (by omega) (by omega) _ rfl rfl
set_option maxRecDepth 100000 in
theorem split_bit (A : Option Addr) (n c : Nat) (xs : List Int) (w : World) (hx : Rd .u8 w A n c xs) (h1 : 1 ≤ n) (h2 : n ≤ 79560) (hv : ValidB xs = false) : Calls Try.prog 34 #[.slice A n c] w (SpBad 3 w) := by
  have hmf : ∀ (fn : Fn) (first cap : Array Value) (w : World), (Instr.makeFunc fn first cap).run Try.prog w = .ok (.func fn first cap) w := fun _ _ _ _ => rfl
  have hT0 : Blk ((w.alloc (.cells #[.slice none 0 0] 55)).alloc (.cells #[.int .i64 0] 24)) w.heap.size 55 [.slice none 0 0] := (Blk.new w [.slice none 0 0] 55 rfl).alloc _
  have hE0 : Blk ((w.alloc (.cells #[.slice none 0 0] 55)).alloc (.cells #[.int .i64 0] 24)) (w.heap.size + 1) 24 [.int .i64 0] := Blk.new _ [.int .i64 0] 24 (by simp)
  have hB0 : Below w.heap.size w ((w.alloc (.cells #[.slice none 0 0] 55)).alloc (.cells #[.int .i64 0] 24)) := ((Below.refl _ _).alloc (Nat.le_refl _) _).alloc (by simp) _
  go_enter_defers Try.func34, Try.ntmps34
  go_wp2_with fail
  generalize (w.alloc (.cells #[.slice none 0 0] 55)).alloc (.cells #[.int .i64 0] 24) = W at *
  refine (plan_ok n W h1 h2).mono ?_
  rintro e w1 ⟨rfl, hB1⟩
  have hx1 := Rdv.below (Rdv.below hx hB0) (hB1.mono (Nat.le_refl _))
  have HT := Lib.hid (hT0.below hB1)
  have HE := Lib.hid (hE0.below hB1)
  have HB := Lib.hid (hB0.trans (hB1.mono hB0.size))
  clear hT0 hE0 hB0 hB1 hx
  unfold LY
  simp only [ints8, List.map_cons, List.map_nil]
  have hb := Lib.hid (fun o => binary_any A n c xs (w1.alloc o) (Rdv.alloc hx1 o))
  rw [hv] at hb
  go_wp2_with (first
    | (go_at_call 67; refine (hb.out _).mono ?_; rintro e w' ⟨rfl, rfl⟩)
    | (go_at_call 66; refine (must_bad _ _).mono ?_; rintro e w' ⟨rfl, rfl⟩))
  exact split_end w _ w.heap.size (w.heap.size + 1) 3 (HT.out.alloc _) (HE.out.alloc _) (bal HB.out _) (Nat.le_refl _) (by omega) (by omega) _ rfl rfl
def SpPost (n : Nat) (xs : List Int) (w : World) (e : Ending) (w' : World) : Prop := ∃ A' c' L, e = .returned (.tuple #[.slice A' L.length c', .int .i64 0]) ∧ BL w' w.heap.size A' c' L ∧ L.map (·.xs) = segs n (List.replicate (fi n) 0 ++ xs) (bC n) ∧ Below w.heap.size w w'
set_option maxRecDepth 100000 in
set_option maxHeartbeats 1000000 in
theorem split_ok (A : Option Addr) (n c : Nat) (xs : List Int) (w : World) (hx : Rd .u8 w A n c xs) (h1 : 1 ≤ n) (h2 : n ≤ 79560) (hv : ValidB xs = true) : Calls Try.prog 34 #[.slice A n c] w (SpPost n xs w) := by
  have hmf : ∀ (fn : Fn) (first cap : Array Value) (w : World), (Instr.makeFunc fn first cap).run Try.prog w = .ok (.func fn first cap) w := fun _ _ _ _ => rfl
  have hfl := fi_lt h1 h2
  have hT0 : Blk ((w.alloc (.cells #[.slice none 0 0] 55)).alloc (.cells #[.int .i64 0] 24)) w.heap.size 55 [.slice none 0 0] := (Blk.new w [.slice none 0 0] 55 rfl).alloc _
  have hE0 : Blk ((w.alloc (.cells #[.slice none 0 0] 55)).alloc (.cells #[.int .i64 0] 24)) (w.heap.size + 1) 24 [.int .i64 0] := Blk.new _ [.int .i64 0] 24 (by simp)
  have hB0 : Below w.heap.size w ((w.alloc (.cells #[.slice none 0 0] 55)).alloc (.cells #[.int .i64 0] 24)) := ((Below.refl _ _).alloc (Nat.le_refl _) _).alloc (by simp) _
  go_enter_defers Try.func34, Try.ntmps34
  go_wp2_with fail
  generalize (w.alloc (.cells #[.slice none 0 0] 55)).alloc (.cells #[.int .i64 0] 24) = W at *
  refine (plan_ok n W h1 h2).mono ?_
  rintro e w1 ⟨rfl, hB1⟩
  have hx1 := Rdv.below (Rdv.below hx hB0) (hB1.mono (Nat.le_refl _))
  have HT := Lib.hid (hT0.below hB1)
  have HE := Lib.hid (hE0.below hB1)
  have HB := Lib.hid (hB0.trans (hB1.mono hB0.size))
  clear hT0 hE0 hB0 hB1 hx
  have hL := Blk.new w1 (ints8 (LY n)) 99 rfl
  obtain ⟨R, hR⟩ : ∃ R, R = (los n : Int) := ⟨_, rfl⟩
  unfold LY at hL ⊢
  simp only [ints8, List.map_cons, List.map_nil] at hL ⊢
  have HX := Lib.hid (Rdv.alloc hx1 (.cells #[.int .i64 n, .int .i64 (bC n : Int), .int .i64 (lo n : Int), .int .i64 (sh n : Int), .int .i64 (los n : Int), .int .i64 (shs n : Int), .int .i64 (fi n : Int)] 99))
  have HT := Lib.hid (HT.out.alloc (.cells #[.int .i64 n, .int .i64 (bC n : Int), .int .i64 (lo n : Int), .int .i64 (sh n : Int), .int .i64 (los n : Int), .int .i64 (shs n : Int), .int .i64 (fi n : Int)] 99))
  have HE := Lib.hid (HE.out.alloc (.cells #[.int .i64 n, .int .i64 (bC n : Int), .int .i64 (lo n : Int), .int .i64 (sh n : Int), .int .i64 (los n : Int), .int .i64 (shs n : Int), .int .i64 (fi n : Int)] 99))
  have HB := Lib.hid (bal HB.out (.cells #[.int .i64 n, .int .i64 (bC n : Int), .int .i64 (lo n : Int), .int .i64 (sh n : Int), .int .i64 (los n : Int), .int .i64 (shs n : Int), .int .i64 (fi n : Int)] 99))
  have hx1s := hx1.le
  clear hx1
  go_wp2_with fail
  generalize w1.alloc (.cells #[.int .i64 n, .int .i64 (bC n : Int), .int .i64 (lo n : Int), .int .i64 (sh n : Int), .int .i64 (los n : Int), .int .i64 (shs n : Int), .int .i64 (fi n : Int)] 99) = W1 at *
  generalize w1.heap.size = LB at *
  refine (binary_any A n c xs W1 HX.out).mono ?_
  rintro e w' ⟨rfl, rfl⟩
  rw [hv]
  obtain ⟨⟨c0, c1, c2, c3, c4, c5, c6⟩, -⟩ := Blk.seven hL
  have HL := Lib.hid hL
  clear hL
  go_wp2_with (first
    | (go_at_call 66; refine (must_ok _ _).mono ?_; rintro e w' ⟨rfl, rfl⟩)
    | (at_make; refine list_of rfl fun K hK => wp_mk _ _ 53 rfl el53 rfl rfl (by omega) (by unfold maxLen; omega) ?_; intro Az w2 hOz hBz hAz; have HOZ := Lib.hid hOz; have HBZ := Lib.hid hBz; clear hOz hBz; refine hK _ _ ?_; clear hK K)
    | (at_builtin; refine list_of rfl fun K hK => wp_app _ _ 53 rfl el53 rfl rfl HOZ.out (Rdv.below HX.out HBZ.out) (oneCell_ints .u8 xs) (by omega) (by unfold maxLen; omega) HBZ.out.size ?_; intro Ar cr w3 hOr hgr; have HOR := Lib.hid hOr; have HGR := Lib.hid hgr; have hB3 := HBZ.out.grown hgr HBZ.out.size (fun k hk => Ownv.ob' HOZ.out hk); have hL3 := (HL.out.below hB3).alloc (.cells #[.slice Ar (fi n + n) cr] 53); obtain ⟨⟨c0', c1', c2', c3', c4', c5', c6'⟩, -⟩ := Blk.seven hL3; have HB3 := Lib.hid hB3; clear hOr hgr hB3; refine hK _ _ ?_; clear hK K))
  have hR3 : Blk (w3.alloc (.cells #[.slice Ar (fi n + n) cr] 53)) w3.heap.size 53 [.slice Ar (fi n + n) cr] := Blk.new w3 [.slice Ar (fi n + n) cr] 53 rfl
  have hO3 : Own .u8 5 (w3.alloc (.cells #[.slice Ar (fi n + n) cr] 53)) W1.heap.size Ar (fi n + n) cr (List.replicate (fi n) 0 ++ xs) := Own.of_eq (HOR.out.alloc _) rfl (by rw [List.map_append, List.map_replicate])
  have hAR : Ar ≠ none → blk Ar ≠ w3.heap.size := fun hA => Nat.ne_of_lt (Ownv.blk_of HOR.out hA).2
  have hvz : ValidB (List.replicate (fi n) 0 ++ xs) = true := by
    unfold ValidB at *
    rw [List.all_append, hv]; simp
  have HT4 := Lib.hid (Blk.alloc (HT.out.below HB3.out) (.cells #[.slice Ar (fi n + n) cr] 53))
  have HE4 := Lib.hid (Blk.alloc (HE.out.below HB3.out) (.cells #[.slice Ar (fi n + n) cr] 53))
  have HB4 := Lib.hid (bal (HB.out.trans (HB3.out.mono HB.out.size)) (.cells #[.slice Ar (fi n + n) cr] 53))
  have htlt := HT.out.lt
  have helt := HE.out.lt
  have hs3 := HB3.out.size
  have hs4 : w3.heap.size < (w3.alloc (.cells #[.slice Ar (fi n + n) cr] 53)).heap.size := by simp
  have hws := HB.out.size
  generalize w3.alloc (.cells #[.slice Ar (fi n + n) cr] 53) = W4 at *
  clear c0 c1 c2 c3 c4 c5 c6 c0' c1' c2' c3' c4' c5' c6'
  refine (built_any n LB w3.heap.size Ar (fi n + n) cr _ W4 h1 h2 (by omega) hL3 hR3 (Own.rd hO3) hAR hvz).mono ?_
  rintro e w5 ⟨A', c', L, rfl, hBL, hxs, hG5⟩
  have hT5 := HT4.out.grown hG5 (fun he => by have := Option.some.inj he; omega)
  have hE5 := HE4.out.grown hG5 (fun he => by have := Option.some.inj he; omega)
  have HB5 := Lib.hid (HB4.out.grown hG5 HB4.out.size (fun k hk => by cases hk; omega))
  have HBL := Lib.hid hBL
  have HXS := Lib.hid hxs
  clear hBL hxs hL3 hR3 hO3 hAR hG5
  obtain ⟨TB, hTB⟩ : ∃ TB, TB = w.heap.size := ⟨_, rfl⟩
  obtain ⟨EB, hEB⟩ : ∃ EB, EB = w.heap.size + 1 := ⟨_, rfl⟩
  rw [← hEB] at hE5 ⊢
  rw [← hTB] at hT5 ⊢
  have hne : TB ≠ EB := by omega
  have hne' : EB ≠ TB := by omega
  have hT0 : w.heap.size ≤ TB := by omega
  have hE0 : w.heap.size ≤ EB := by omega
  have hT4 : TB < W4.heap.size := by omega
  have hE4 : EB < W4.heap.size := by omega
  clear hTB hEB
  have t0 := hT5.cell (j := 0) rfl
  have t1 := hT5.frozen 0
  have e0 := hE5.cell (j := 0) rfl
  have e1 := hE5.frozen 0
  go_wp2
  have hT6 := (hT5.set 0 (.slice A' L.length c')).other (g := EB) hne' 0 (.int .i64 0)
  have hE6 := (hE5.other (g := TB) hne 0 (.slice A' L.length c')).set 0 (.int .i64 0)
  have hBL6 := (HBL.out.grownL hT4 (grownBy_set w5 TB 0 (.slice A' L.length c'))).grownL hE4 (grownBy_set _ EB 0 (.int .i64 0))
  have hB6 := (HB5.out.setCell (p := ⟨TB, 0, none⟩) hT0 (.slice A' L.length c')).setCell (p := ⟨EB, 0, none⟩) hE0 (.int .i64 0)
  have HT6 := Lib.hid hT6
  have HE6 := Lib.hid hE6
  have HBL6 := Lib.hid (hBL6.mono (base' := w.heap.size) (by omega))
  have HB6 := Lib.hid hB6
  clear hT6 hE6 hBL6 hB6 t0 t1 e0 e1 hT5 hE5
  generalize (w5.setCell ⟨TB, 0, none⟩ (.slice A' L.length c')).setCell ⟨EB, 0, none⟩ (.int .i64 0) = W6 at *
  refine leaves_cons (f := 62) (args := #[.pointer (some ⟨EB, 0, none⟩), .func (.func 65) #[] #[.pointer (some ⟨TB, 0, none⟩)]]) (by simp) (by simp [go_sem]) ?_
  refine (caught_idle ⟨EB, 0, none⟩ _ _).mono ?_
  rintro e u' w'' ⟨rfl, rfl, rfl⟩
  have l1 := lv55 (HT6.out.cell (j := 0) rfl)
  have l2 := lv24 (HE6.out.cell (j := 0) rfl)
  simp [Leaves, settle, results, Try.results34, asAddr, l1, l2, Sem.run_bind, Result.andThen]
  exact ⟨A', c', L, rfl, HBL6.out, HXS.out, HB6.out⟩
end Go.Proofs.Ytcbbkflnenkpgaa

namespace Go.Proofs.Ytcbbkflnenkpgaa
open Go.RowKit CM
set_option linter.unusedVariables false
set_option maxRecDepth 100000 in
set_option maxHeartbeats 400000 in
theorem right_any (A : Option Addr) (n c : Nat) (xs : List Int) (w : World) (h : Rd .u8 w A n c xs) :
    Calls Try.prog 74 #[.slice A n c] w fun e w' => e = .returned (.bool (ValidB xs)) ∧ w = w' := by
  have hbd := h.bd.1
  go_enter Try.func74, Try.ntmps74
  go_wp2
  go_loop [3] (fun i => IdxInv n xs i) (fun i => n - (intOf i).toNat)
  case atStart => exact ⟨0, by omega, rfl, by intro q hq; omega⟩
  case round =>
    obtain ⟨j, hj, rfl, hv⟩ := hrel
    by_cases hlt : j < n
    · have hc := Rd.cell h hlt
      have hix := fun W => Rdv.ix h el53 hlt .i64 W
      have HV := Lib.hid hv; clear hv
      by_cases h1 : gi xs j ≤ 1
      · have h1' : decide (1 < gi xs j) = false := by simp; omega
        go_wp2
        go_round
        case rel => exact ⟨j + 1, by omega, by go_num, fun q hq => lt_succ_cases HV.out h1 q hq⟩
        case measure => simp [intOf]; omega
      · have h1' : decide (1 < gi xs j) = true := by simp; omega
        have hf := Lib.hid (validB_f (by rw [h.len]; exact hlt) (by omega : 1 < gi xs j))
        go_wp2
        go_ret
        exact ⟨ret_bool hf.out.symm, rfl⟩
    · have hf := Lib.hid (validB_t (xs := xs) (by rw [h.len]; intro q hq; exact hv q (by omega)))
      go_wp2
      go_ret
      exact ⟨ret_bool hf.out.symm, rfl⟩
def padB (xs : List Int) : List Bool := bl xs ++ List.replicate 24 false
def remB (xs : List Int) (i : Nat) : Nat := dvr 24 0x800063 0 ((padB xs).take i)
theorem padB_len (xs : List Int) : (padB xs).length = xs.length + 24 := by simp [padB, bit_len]
theorem remB_lt (xs : List Int) (i : Nat) : remB xs i < 16777216 := dvr_lt (L := 24) (p := 0x800063) (by decide) (by decide) _ _ (by decide)
theorem remB_succ (xs : List Int) (i : Nat) (h : i < xs.length + 24) : remB xs (i + 1) = dv 24 0x800063 (remB xs i) ((padB xs).getD i false) := by
  unfold remB
  rw [List.take_succ_eq_append_getElem (by rw [padB_len]; exact h), dvr_snoc]
  congr 1
  simp [List.getD, padB_len, h]
theorem i64_xor_nat (a b : Nat) (ha : a < 4611686018427387904) (hb : b < 4611686018427387904) : bits .xor .i64 (a : Int) (b : Int) = ((a ^^^ b : Nat) : Int) := by
  have hx : a ^^^ b < 2 ^ 62 := Nat.xor_lt_two_pow (by omega) (by omega)
  have e : ∀ c : Nat, c < 4611686018427387904 → (BitVec.ofInt 64 (c : Int)).toNat = c := fun c hc => by
    rw [BitVec.ofInt_natCast, BitVec.toNat_ofNat]; exact Nat.mod_eq_of_lt (by omega)
  show IntKind.i64.wrap ((BitVec.ofInt 64 (a : Int) ^^^ BitVec.ofInt 64 (b : Int)).toNat : Int) = _
  rw [BitVec.toNat_xor, e a ha, e b hb, IntKind.wrap_i64]
  omega
theorem dv_val (r : Nat) (b : Bool) : dv 24 0x800063 r b = if 16777216 ≤ 2 * r + b.toNat then (2 * r + b.toNat) ^^^ 25165923 else 2 * r + b.toNat := rfl
theorem pad_lo (xs : List Int) (i : Nat) (h : i < xs.length) : (padB xs).getD i false = decide (gi xs i = 1) := by
  unfold padB
  rw [List.getD_eq_getElem?_getD, List.getElem?_append_left (by rw [bit_len]; exact h), ← List.getD_eq_getElem?_getD, bl_getD]
theorem pad_hi (xs : List Int) (i : Nat) (h : xs.length ≤ i) : (padB xs).getD i false = false := by
  unfold padB
  rw [List.getD_eq_getElem?_getD, List.getElem?_append_right (by rw [bit_len]; exact h)]
  rw [List.getElem?_replicate]; split <;> rfl
def CkInv (n : Nat) (xs : List Int) (r i : Value) : Prop := ∃ j : Nat, j ≤ n + 24 ∧ i = .int .i64 j ∧ r = .int .i64 (remB xs j : Int)
theorem bit_val (R k : Nat) : ((R : Int) / 2 ^ k).tmod 2 % 256 = ib (R.testBit k) := by
  have e : (R : Int) / 2 ^ k = ((R / 2 ^ k : Nat) : Int) := by simp
  rw [e, Nat.testBit_eq_decide_div_mod_eq]
  generalize R / 2 ^ k = q
  rw [Int.tmod_eq_emod_of_nonneg (Int.natCast_nonneg _)]
  rcases Nat.mod_two_eq_zero_or_one q with h | h
  · rw [h]; simp [ib]; omega
  · rw [h]; simp [ib]; omega
def Ck2 (w : World) (R : Nat) (out i : Value) (wr : World) : Prop := ∃ (j : Nat) (A : Option Addr) (c : Nat), j ≤ 24 ∧ i = .int .i64 (23 - (j : Int)) ∧ out = .slice A j c ∧ Own .u8 5 wr w.heap.size A j c (((bitsOf 24 R).map ib).take j) ∧ Below w.heap.size w wr
set_option maxRecDepth 100000 in
set_option maxHeartbeats 1000000 in
theorem rchk_any (A : Option Addr) (n c : Nat) (xs : List Int) (w : World) (h : Rd .u8 w A n c xs) (hb : Bit xs) (hn : n ≤ 100000) :
    Calls Try.prog 75 #[.slice A n c] w fun e w' => ∃ A' c', e = .returned (.slice A' 24 c') ∧ Own .u8 5 w' w.heap.size A' 24 c' (crcSum 2 xs) ∧ Below w.heap.size w w' := by
  have hl := h.len
  have HL := Lib.hid hl
  have HSUM := Lib.hid (show (bitsOf 24 (remB xs (n + 24))).map ib = crcSum 2 xs by
    have h1 := dvr_sum (bl xs)
    rw [ib_bl hb] at h1
    rw [← h1]; unfold remB padB
    rw [List.take_of_length_le (by simp [bit_len, hl])])
  clear hl
  go_enter Try.func75, Try.ntmps75
  go_wp2
  go_loop [3, 4] (fun r i => CkInv n xs r i) (fun _ i => n + 24 - (intOf i).toNat)
  case atStart => exact ⟨0, by omega, rfl, by simp [remB, dvr]⟩
  case round =>
    obtain ⟨j, hj, rfl, rfl⟩ := hrel
    by_cases hlt : j < n + 24
    · have hlt2 := remB_lt xs j
      have hs := remB_succ xs j (by rw [HL.out]; exact hlt)
      rw [dv_val] at hs
      have HJ := Lib.hid (remB_lt xs (j + 1))
      by_cases hjn : j < n
      · rw [pad_lo xs j (by rw [HL.out]; exact hjn)] at hs
        have hc := Rd.cell h hjn
        have hix := fun W => Rdv.ix h el53 hjn .i64 W
        rcases hb (gi xs j) (gi_mem xs j (by rw [HL.out]; exact hjn)) with hg | hg
        · rw [hg] at hs hc
          clear hg
          simp only [show decide ((0 : Int) = 1) = false from rfl, Bool.toNat_false, Nat.add_zero] at hs
          obtain ⟨T, hT⟩ : ∃ T, T = 2 * remB xs j := ⟨_, rfl⟩
          rw [← hT] at hs
          have hTl : T < 33554432 := by omega
          have hm : wrap64 (2 * (remB xs j : Int)) = T := by unfold wrap64; omega
          have hw : wrap64 (T : Int) = T := by unfold wrap64; omega
          have hw1 : wrap64 ((T : Int) + 1) = T + 1 := by unfold wrap64; omega
          have HTL := Lib.hid hTl
          clear hT hlt2
          by_cases hge : 16777216 ≤ T
          · rw [if_pos hge] at hs
            have hx := i64_xor_nat (T) 25165923 (by omega) (by decide)
            rw [← hs] at hx
            have hx : bits .xor .i64 ((T : Int)) 25165923 = (remB xs (j + 1) : Int) := by rw [← hx]; rfl
            clear hs
            generalize hR1 : remB xs (j + 1) = R1 at *
            generalize hR0 : remB xs j = R0 at *
            have HR1 := Lib.hid hR1
            clear hR1 hR0 HJ
            have a2 : decide ((16777216 : Int) ≤ (T : Int)) = true := by simp; omega
            clear hge hTl
            go_wp2
            go_round
            case rel => exact ⟨j + 1, by omega, by go_num, by rw [HR1.out]⟩
            case measure => simp [intOf]; omega
          · rw [if_neg hge] at hs
            have HS := Lib.hid hs
            clear hs
            generalize hR0 : remB xs j = R0 at *
            clear hR0 HJ
            have a2 : decide ((16777216 : Int) ≤ (T : Int)) = false := by simp; omega
            clear hge hTl
            go_wp2
            go_round
            case rel => exact ⟨j + 1, by omega, by go_num, by rw [HS.out]; go_num⟩
            case measure => simp [intOf]; omega
        · rw [hg] at hs hc
          clear hg
          rw [show decide ((1 : Int) = 1) = true from rfl, Bool.toNat_true] at hs
          obtain ⟨T, hT⟩ : ∃ T, T = 2 * remB xs j := ⟨_, rfl⟩
          rw [← hT] at hs
          have hTl : T < 33554432 := by omega
          have hm : wrap64 (2 * (remB xs j : Int)) = T := by unfold wrap64; omega
          have hw : wrap64 (T : Int) = T := by unfold wrap64; omega
          have hw1 : wrap64 ((T : Int) + 1) = T + 1 := by unfold wrap64; omega
          have HTL := Lib.hid hTl
          clear hT hlt2
          by_cases hge : 16777216 ≤ T + 1
          · rw [if_pos hge] at hs
            have hx := i64_xor_nat (T + 1) 25165923 (by omega) (by decide)
            rw [← hs] at hx
            have hx : bits .xor .i64 ((T : Int) + 1) 25165923 = (remB xs (j + 1) : Int) := by rw [← hx]; rfl
            clear hs
            generalize hR1 : remB xs (j + 1) = R1 at *
            generalize hR0 : remB xs j = R0 at *
            have HR1 := Lib.hid hR1
            clear hR1 hR0 HJ
            have a2 : decide ((16777216 : Int) ≤ (T : Int) + 1) = true := by simp; omega
            clear hge hTl
            go_wp2
            go_round
            case rel => exact ⟨j + 1, by omega, by go_num, by rw [HR1.out]⟩
            case measure => simp [intOf]; omega
          · rw [if_neg hge] at hs
            have HS := Lib.hid hs
            clear hs
            generalize hR0 : remB xs j = R0 at *
            clear hR0 HJ
            have a2 : decide ((16777216 : Int) ≤ (T : Int) + 1) = false := by simp; omega
            clear hge hTl
            go_wp2
            go_round
            case rel => exact ⟨j + 1, by omega, by go_num, by rw [HS.out]; go_num⟩
            case measure => simp [intOf]; omega
      · rw [pad_hi xs j (by rw [HL.out]; omega)] at hs
        simp only [Bool.toNat_false, Nat.add_zero] at hs
        obtain ⟨T, hT⟩ : ∃ T, T = 2 * remB xs j := ⟨_, rfl⟩
        rw [← hT] at hs
        have hTl : T < 33554432 := by omega
        have hm : wrap64 (2 * (remB xs j : Int)) = T := by unfold wrap64; omega
        have hw : wrap64 (T : Int) = T := by unfold wrap64; omega
        have hw1 : wrap64 ((T : Int) + 1) = T + 1 := by unfold wrap64; omega
        have HTL := Lib.hid hTl
        clear hT hlt2
        by_cases hge : 16777216 ≤ T
        · rw [if_pos hge] at hs
          have hx := i64_xor_nat (T) 25165923 (by omega) (by decide)
          rw [← hs] at hx
          have hx : bits .xor .i64 ((T : Int)) 25165923 = (remB xs (j + 1) : Int) := by rw [← hx]; rfl
          clear hs
          generalize hR1 : remB xs (j + 1) = R1 at *
          generalize hR0 : remB xs j = R0 at *
          have HR1 := Lib.hid hR1
          clear hR1 hR0 HJ
          have a2 : decide ((16777216 : Int) ≤ (T : Int)) = true := by simp; omega
          clear hge hTl
          go_wp2
          go_round
          case rel => exact ⟨j + 1, by omega, by go_num, by rw [HR1.out]⟩
          case measure => simp [intOf]; omega
        · rw [if_neg hge] at hs
          have HS := Lib.hid hs
          clear hs
          generalize hR0 : remB xs j = R0 at *
          clear hR0 HJ
          have a2 : decide ((16777216 : Int) ≤ (T : Int)) = false := by simp; omega
          clear hge hTl
          go_wp2
          go_round
          case rel => exact ⟨j + 1, by omega, by go_num, by rw [HS.out]; go_num⟩
          case measure => simp [intOf]; omega
    · obtain rfl : j = n + 24 := by omega
      have hRl := remB_lt xs (n + 24)
      obtain ⟨R, hR⟩ : ∃ R, R = remB xs (n + 24) := ⟨_, rfl⟩
      rw [← hR] at hRl HSUM ⊢
      have HR := Lib.hid hRl
      clear hR hRl
      go_wp2
      go_loopw [6, 7] (fun out i wr => Ck2 w R out i wr) (fun _ i _ => (intOf i + 1).toNat)
      case atStart => exact ⟨0, none, 0, by omega, by go_num, rfl, Ownv.nilv 5 w _, Below.refl _ _⟩
      case round =>
        obtain ⟨j, A1, c1, hj, rfl, rfl, hO, hB⟩ := hrel
        have HO := Lib.hid hO
        have HB := Lib.hid hB
        clear hO hB
        by_cases hlt : j < 24
        · go_wp2_with (at_builtin; refine list_of rfl fun K hK => wp_app1 _ _ 53 rfl el53 rfl (.int .u8 _) rfl rfl HO.out (by omega) (by omega) HB.out.size ?_; intro A' c' w' hO' hg; have HO' := Lib.hid hO'; have HG := Lib.hid hg; clear hO' hg; refine hK _ _ ?_; clear hK K)
          have hbit := bit_val R (23 - j)
          have hget : ((bitsOf 24 R).map ib)[j]? = some (ib (R.testBit (23 - j))) := by
            rw [List.getElem?_map]; simp [bitsOf, hlt]
          go_roundw
          case rel => exact ⟨j + 1, A', c', by omega, by rw [show ((j + 1 : Nat) : Int) = (j : Int) + 1 by omega, show (23 : Int) - ((j : Int) + 1) = 23 - j - 1 by omega], rfl, Own.of_eq HO'.out rfl (by rw [List.take_add_one, hget, List.map_append, hbit]; rfl), HB.out.grown HG.out HB.out.size (fun k hk => Ownv.ob' HO.out hk)⟩
          case measure => simp [intOf]; omega
        · obtain rfl : j = 24 := by omega
          go_wp2
          go_ret
          exact ⟨A1, c1, rfl, by have := HO.out; rw [List.take_of_length_le (by simp [bitsOf_len]), HSUM.out] at this; exact this, HB.out⟩
end Go.Proofs.Ytcbbkflnenkpgaa

namespace Go.Proofs.Ytcbbkflnenkpgaa
open Go.RowKit CM
set_option linter.unusedVariables false
theorem Rdv.slI {w : World} {A : Option Addr} {n c : Nat} {vs : List Value} {P : Program} (h : Rdv w A n c vs) {t e : TypeId} {z : Value} {bytes : Nat} (E : El P t e z bytes) (kl kh : IntKind) {l m : Nat} (hlm : l ≤ m) (hm : m ≤ c) (L M : Int) (hL : L = (l : Int)) (hM : M = (m : Int)) (W : World) :
    (Instr.sliceAt t (.slice A n c) (some (.int kl L)) (some (.int kh M)) none).run P W = .ok (.slice (cut A c l) (m - l) (c - l)) W := by
  subst hL hM; exact h.sl E kl kh hlm hm W
theorem full_zero {f m : Nat} {xs : List Int} (h : f ≤ m) : ((List.replicate f 0 ++ xs).drop 0).take m = List.replicate f 0 ++ (xs.take (m - f)) := by
  rw [List.drop_zero, List.take_append, List.length_replicate, List.take_of_length_le (by simp; exact h)]
theorem full_succ {f o m : Nat} {xs : List Int} (h : f ≤ o) : ((List.replicate f 0 ++ xs).drop o).take m = (xs.drop (o - f)).take m := by
  rw [List.drop_append, List.length_replicate, List.drop_of_length_le (by simp; exact h), List.nil_append]
def RbInv (W : World) (b LB : Nat) (lay full : List Int) (out at_ i : Value) (wr : World) : Prop :=
  ∃ (j a : Nat) (A : Option Addr) (c : Nat) (L : List Sv), j ≤ bC b ∧ i = .int .i64 j ∧ at_ = .int .i64 a ∧ a = off b j - fi b ∧ out = .slice A L.length c ∧ BL wr W.heap.size A c L ∧ L.length = j ∧ L.map (·.xs) = segs b full j ∧ Below W.heap.size W wr
def RsPost (b : Nat) (xs : List Int) (w : World) (e : Ending) (w' : World) : Prop := ∃ A' c' L, e = .returned (.tuple #[.slice A' L.length c', .int .i64 0]) ∧ BL w' w.heap.size A' c' L ∧ L.map (·.xs) = segs b (List.replicate (fi b) 0 ++ xs) (bC b) ∧ Below w.heap.size w w'
theorem bit_drop {xs : List Int} (n : Nat) (hx : Bit xs) : Bit (xs.drop n) := fun x h => hx x (List.mem_of_mem_drop h)
set_option maxRecDepth 100000 in
set_option maxHeartbeats 1000000 in
theorem rsplit_ok (A : Option Addr) (n c : Nat) (xs : List Int) (w : World) (hx : Rd .u8 w A n c xs) (h1 : 1 ≤ n) (h2 : n ≤ 79560) (hb : Bit xs) : Calls Try.prog 35 #[.slice A n c] w (RsPost n xs w) := by
  have hv := bit_valid hb
  have hC := bC_le h2
  have hfl := fi_lt h1 h2
  have hxl := hx.len
  have hoff := off_all h1
  have hcm := Rdv.le hx
  have HPL := Lib.hid (fun W => rplan_ok n W h1 h2)
  have HEA := Lib.hid (fun W => reach_ok n W h1 h2)
  have HLY := Lib.hid (show LY n = [(n : Int), (bC n : Int), (lo n : Int), (sh n : Int), (los n : Int), (shs n : Int), (fi n : Int)] from rfl)
  unfold RpPost at HPL
  rw [HLY.out] at HPL
  simp only [ints8, List.map_cons, List.map_nil] at HPL
  go_enter Try.func35, Try.ntmps35
  go_wp2_with (first | (go_at_call 32; refine (HPL.out _).mono ?_; rintro e w1 ⟨rfl, hB1⟩; have hx1 := Rdv.below hx hB1; have HB1 := Lib.hid hB1; clear hB1))
  have hb74 := Lib.hid (fun o => right_any A n c xs (w1.alloc o) (Rdv.alloc hx1 o))
  rw [hv] at hb74
  refine (hb74.out _).mono ?_
  rintro e w' ⟨rfl, rfl⟩
  have hL := Blk.new w1 (ints8 [(n : Int), (bC n : Int), (lo n : Int), (sh n : Int), (los n : Int), (shs n : Int), (fi n : Int)]) 23 rfl
  have hX2 := Rdv.alloc hx1 (.cells (ints8 [(n : Int), (bC n : Int), (lo n : Int), (sh n : Int), (los n : Int), (shs n : Int), (fi n : Int)]).toArray 23)
  have hB2 := bal HB1.out (.cells (ints8 [(n : Int), (bC n : Int), (lo n : Int), (sh n : Int), (los n : Int), (shs n : Int), (fi n : Int)]).toArray 23)
  simp only [ints8, List.map_cons, List.map_nil] at hL hX2 hB2
  have HL := Lib.hid hL
  have HX2 := Lib.hid hX2
  have HB2 := Lib.hid hB2
  clear hL hX2 hB2 hx hx1 HB1 hb74
  go_wp2_with (go_at_call 39; refine (HEA.out _).mono ?_; rintro e w3 ⟨As, cs, rfl, hOs, hB3⟩)
  generalize w1.alloc (.cells #[.int .i64 n, .int .i64 (bC n : Int), .int .i64 (lo n : Int), .int .i64 (sh n : Int), .int .i64 (los n : Int), .int .i64 (shs n : Int), .int .i64 (fi n : Int)] 23) = W2 at *
  generalize w1.heap.size = LB at *
  have HL3 := Lib.hid (HL.out.below hB3)
  have HX3 := Lib.hid (Rdv.below HX2.out hB3)
  have HB3 := Lib.hid (HB2.out.trans (hB3.mono HB2.out.size))
  have HS3 := Lib.hid (Own.rd hOs)
  clear hOs hB3 HL HX2 HB2
  go_loopw [7, 8, 9] (fun out a i wr => RbInv w3 n LB (LY n) (List.replicate (fi n) 0 ++ xs) out a i wr) (fun _ _ i _ => bC n - (intOf i).toNat)
  case atStart => exact ⟨0, 0, none, 0, [], by omega, rfl, rfl, by simp [off], rfl, BL.nil w3 _, rfl, rfl, Below.refl _ _⟩
  case round =>
    obtain ⟨j, a, A1, c1, L, hj, rfl, rfl, ha, rfl, hBL, hlen, hxs, hB⟩ := hrel
    have HBL := Lib.hid hBL
    have HX := Lib.hid hxs
    have HB := Lib.hid hB
    have HLN := Lib.hid hlen
    have HAE := Lib.hid ha
    obtain ⟨⟨c0, c1', c2, c3, c4, c5, c6⟩, -⟩ := Blk.seven (HL3.out.below HB.out)
    clear hBL hxs hB hlen ha
    by_cases hlt : j < bC n
    · have hsz := (sz_ge (i := j) h1)
      have hix := fun W => Rdv.ix (Rdv.below HS3.out HB.out) el34 hlt .i64 W
      have hcz := Rd.cell (Rdv.below HS3.out HB.out) hlt
      rw [gi_szs _ _ _ hlt] at hcz
      by_cases hq : n ≤ 6144
      · have e1 := bC_one hq
        have ek : ck n = 0 := by unfold ck; rw [if_pos hq]
        obtain rfl : j = 0 := by omega
        obtain ⟨N, hN⟩ : ∃ N, N + ck n + fi n = sz n 0 := ⟨sz n 0 - ck n - fi n, by have := hsz.1; simp only [if_true] at this; omega⟩
        have hN1 : 1 ≤ N := by have := hsz.1; simp only [if_true] at this; omega
        have hst : off n (0 + 1) = off n 0 + (sz n 0 - ck n) := rfl
        have hmo := off_le (b := n) (show 0 + 1 ≤ bC n by omega)
        have ha0 : a = 0 := by rw [HAE.out]; simp [off]
        have hof0 : off n 0 = 0 := rfl
        have haN : a + N ≤ n := by omega
        have hdat : ((List.replicate (fi n) 0 ++ xs).drop (off n 0)).take (sz n 0 - ck n) = List.replicate (fi n) 0 ++ (xs.drop a).take N := by
          rw [ha0, List.drop_zero, hof0, full_zero (by omega)]; congr 2; omega
        have haS : a + N = off n (0 + 1) - fi n := by omega
        have hNI : (sz n 0 : Int) - (fi n : Int) = (N : Int) := by omega
        have hdc : decide ((1 : Int) < (bC n : Int)) = false := by simp; omega
        have hsl : ∀ W, (Instr.sliceAt 53 (.slice A n c) (some (.int .i64 (a : Int))) (some (.int .i64 ((a : Int) + N))) none).run Try.prog W = .ok (.slice (cut A c a) N (c - a)) W := fun W => by
          have := Rdv.slI HX3.out el53 .i64 .i64 (l := a) (m := a + N) (by omega) (by omega) (a : Int) ((a : Int) + N) rfl (by omega) W
          rwa [Nat.add_sub_cancel_left] at this
        have hRx : Rd .u8 w3 (cut A c a) N (c - a) ((xs.drop a).take N) := by
          have := Rd.cut_ HX3.out (l := a) (m := a + N) (by omega) haN
          rwa [Nat.add_sub_cancel_left, List.drop_take, Nat.add_sub_cancel_left] at this
        have hNl : N ≤ 6144 := by omega
        have HRX := Lib.hid hRx
        have HDAT := Lib.hid hdat
        have HAS := Lib.hid haS
        have hszl := hsz.2
        have hll : L.length < 20 := by rw [HLN.out]; omega
        clear hdat hRx haS hst hmo hsz ha0
        have E1 := Lib.hid e1
        clear e1
        clear hof0
        rw [show ((0 : Nat) : Int) = 0 from rfl]
        rw [show ((0 : Nat) : Int) = 0 from rfl] at hix
        have HBT := Lib.hid (show Bit (List.replicate (fi n) 0 ++ (xs.drop a).take N) from bit_app (bit_zeros _) (bit_take _ (bit_drop _ hb)))
        go_wp2_with (first
          | (at_make; refine list_of rfl fun K hK => wp_mk _ _ 53 rfl el53 rfl rfl (by omega) (by unfold maxLen; omega) ?_; intro Az w4 hOz hBz hAz; have HOZ := Lib.hid hOz; have HBZ := Lib.hid hBz; have hcz := Rd.cell (Rdv.below HS3.out (HB.out.trans (hBz.mono HB.out.size))) hlt; rw [gi_szs _ _ _ hlt] at hcz; obtain ⟨⟨c0, c1', c2, c3, c4, c5, c6⟩, -⟩ := Blk.seven (HL3.out.below (HB.out.trans (hBz.mono HB.out.size))); clear hOz hBz; refine hK _ _ ?_; clear hK K)
          | (at_builtin; refine list_of rfl fun K hK => wp_app (base := wr.heap.size) (.tmp 50) (.tmp 56) 53 rfl el53 rfl rfl HOZ.out (Rdv.below HRX.out (HB.out.trans (HBZ.out.mono HB.out.size))) (oneCell_ints .u8 _) (by omega) (by unfold maxLen; omega) HBZ.out.size ?_; intro A5 c5x w5 hO5 hg5; have HB5 := Lib.hid (HBZ.out.grown hg5 HBZ.out.size (fun k hk => Ownv.ob' HOZ.out hk)); have HO5 := Lib.hid (Own.of_eq (k := .u8) (xs := List.replicate (fi n) 0 ++ (xs.drop a).take N) hO5 (n' := fi n + N) rfl (by simp)); clear hO5 hg5; obtain ⟨⟨c0, c1', c2, c3, c4, c5, c6⟩, -⟩ := Blk.seven (HL3.out.below (HB.out.trans (HB5.out.mono HB.out.size))); refine hK _ _ ?_; clear hK K)
          | (at_builtin; refine list_of rfl fun K hK => wp_app1 (w := w5) (base := w3.heap.size) (.tmp 68) (.tmp 70) 55 rfl el55 rfl (.slice A5 (fi n + N) c5x) rfl rfl (HBL.out.below HB5.out).o (by omega) (by omega) (Nat.le_trans HB.out.size HB5.out.size) ?_; intro A8 c8x w8 hO8 hg8; have HO8 := Lib.hid hO8; have HG8 := Lib.hid hg8; clear hO8 hg8; refine hK _ _ ?_; clear hK K))
        have hseg : segB n (((List.replicate (fi n) 0 ++ xs).drop (off n 0)).take (sz n 0 - ck n)) = List.replicate (fi n) 0 ++ (xs.drop a).take N := by
          rw [HDAT.out]; unfold segB; rw [if_pos hq]
        have hA5 : A5 ≠ none := own_some HO5.out (q := 0) (by omega)
        have hge := (Ownv.blk_of HO5.out hA5).1
        have hBL2 : BL w8 w3.heap.size A8 c8x (L ++ [(⟨A5, fi n + N, c5x, List.replicate (fi n) 0 ++ (xs.drop a).take N⟩ : Sv)]) :=
          BL.push (HBL.out.below HB5.out) (s := (⟨A5, fi n + N, c5x, List.replicate (fi n) 0 ++ (xs.drop a).take N⟩ : Sv)) (Ownv.mono HO5.out HB.out.size) hA5 (fun t ht => by have h8 := (Ownv.blk_of (HBL.out.r t ht).1 (HBL.out.r t ht).2).2; exact Nat.ne_of_lt (Nat.lt_of_lt_of_le h8 hge)) HO8.out HG8.out
        have hB8 : Below w3.heap.size w3 w8 := (HB.out.trans (HB5.out.mono HB.out.size)).grown HG8.out (Nat.le_trans HB.out.size HB5.out.size) (fun k hk => Ownv.ob' (HBL.out.below HB5.out).o hk)
        go_roundw
        case rel => exact ⟨0 + 1, a + N, A8, c8x, L ++ [(⟨A5, fi n + N, c5x, List.replicate (fi n) 0 ++ (xs.drop a).take N⟩ : Sv)], by omega, by first | rfl | go_num, by go_num, HAS.out, by simp, hBL2, by simp [HLN.out], by rw [List.map_append, HX.out, segs_succ, hseg]; rfl, hB8⟩
        case measure => simp [intOf]; omega
      · have e1 := bC_two hq
        have ek : ck n = 24 := by unfold ck; rw [if_neg hq]
        by_cases hj0 : j = 0
        · subst hj0
          obtain ⟨N, hN⟩ : ∃ N, N + ck n + fi n = sz n 0 := ⟨sz n 0 - ck n - fi n, by have := hsz.1; simp only [if_true] at this; omega⟩
          have hN1 : 1 ≤ N := by have := hsz.1; simp only [if_true] at this; omega
          have hst : off n (0 + 1) = off n 0 + (sz n 0 - ck n) := rfl
          have hmo := off_le (b := n) (show 0 + 1 ≤ bC n by omega)
          have ha0 : a = 0 := by rw [HAE.out]; simp [off]
          have hof0 : off n 0 = 0 := rfl
          have haN : a + N ≤ n := by omega
          have hdat : ((List.replicate (fi n) 0 ++ xs).drop (off n 0)).take (sz n 0 - ck n) = List.replicate (fi n) 0 ++ (xs.drop a).take N := by
            rw [ha0, List.drop_zero, hof0, full_zero (by omega)]; congr 2; omega
          have haS : a + N = off n (0 + 1) - fi n := by omega
          have hNI : (sz n 0 : Int) - (fi n : Int) - 24 = (N : Int) := by omega
          have hNI0 : 0 ≤ (sz n 0 : Int) - (fi n : Int) ∧ (sz n 0 : Int) - (fi n : Int) ≤ 6144 := by omega
          have hdc : decide ((1 : Int) < (bC n : Int)) = true := by simp; omega
          have hsl : ∀ W, (Instr.sliceAt 53 (.slice A n c) (some (.int .i64 (a : Int))) (some (.int .i64 ((a : Int) + N))) none).run Try.prog W = .ok (.slice (cut A c a) N (c - a)) W := fun W => by
            have := Rdv.slI HX3.out el53 .i64 .i64 (l := a) (m := a + N) (by omega) (by omega) (a : Int) ((a : Int) + N) rfl (by omega) W
            rwa [Nat.add_sub_cancel_left] at this
          have hRx : Rd .u8 w3 (cut A c a) N (c - a) ((xs.drop a).take N) := by
            have := Rd.cut_ HX3.out (l := a) (m := a + N) (by omega) haN
            rwa [Nat.add_sub_cancel_left, List.drop_take, Nat.add_sub_cancel_left] at this
          have hNl : N ≤ 6144 := by omega
          have HRX := Lib.hid hRx
          have HDAT := Lib.hid hdat
          have HAS := Lib.hid haS
          have hszl := hsz.2
          have hll : L.length < 20 := by rw [HLN.out]; omega
          clear hdat hRx haS hst hmo hsz ha0
          have E1 := Lib.hid e1
          clear e1
          clear hof0
          rw [show ((0 : Nat) : Int) = 0 from rfl]
          rw [show ((0 : Nat) : Int) = 0 from rfl] at hix
          have HBT := Lib.hid (show Bit (List.replicate (fi n) 0 ++ (xs.drop a).take N) from bit_app (bit_zeros _) (bit_take _ (bit_drop _ hb)))
          go_wp2_with (first
            | (at_make; refine list_of rfl fun K hK => wp_mk _ _ 53 rfl el53 rfl rfl (by omega) (by unfold maxLen; omega) ?_; intro Az w4 hOz hBz hAz; have HOZ := Lib.hid hOz; have HBZ := Lib.hid hBz; have hcz := Rd.cell (Rdv.below HS3.out (HB.out.trans (hBz.mono HB.out.size))) hlt; rw [gi_szs _ _ _ hlt] at hcz; obtain ⟨⟨c0, c1', c2, c3, c4, c5, c6⟩, -⟩ := Blk.seven (HL3.out.below (HB.out.trans (hBz.mono HB.out.size))); clear hOz hBz; refine hK _ _ ?_; clear hK K)
            | (at_builtin; refine list_of rfl fun K hK => wp_app (base := wr.heap.size) (.tmp 50) (.tmp 56) 53 rfl el53 rfl rfl HOZ.out (Rdv.below HRX.out (HB.out.trans (HBZ.out.mono HB.out.size))) (oneCell_ints .u8 _) (by omega) (by unfold maxLen; omega) HBZ.out.size ?_; intro A5 c5x w5 hO5 hg5; have HB5 := Lib.hid (HBZ.out.grown hg5 HBZ.out.size (fun k hk => Ownv.ob' HOZ.out hk)); have HO5 := Lib.hid (Own.of_eq (k := .u8) (xs := List.replicate (fi n) 0 ++ (xs.drop a).take N) hO5 (n' := fi n + N) rfl (by simp)); clear hO5 hg5; obtain ⟨⟨c0, c1', c2, c3, c4, c5, c6⟩, -⟩ := Blk.seven (HL3.out.below (HB.out.trans (HB5.out.mono HB.out.size))); refine hK _ _ ?_; clear hK K)
            | (go_at_call 75; refine (rchk_any A5 _ c5x (List.replicate (fi n) 0 ++ (xs.drop a).take N) _ (Own.rd HO5.out) HBT.out (by omega)).mono ?_; rintro e w6 ⟨A6, c6x, rfl, hO6, hB6⟩; have HO6 := Lib.hid (Own.rd hO6); have HB6 := Lib.hid (HB5.out.trans (hB6.mono HB5.out.size)); have HO5b := Lib.hid (Ownv.below HO5.out hB6); clear hO6 hB6)
            | (at_builtin; refine list_of rfl fun K hK => wp_app (base := wr.heap.size) (.tmp 64) (.tmp 66) 53 rfl el53 rfl rfl HO5b.out HO6.out (oneCell_ints .u8 _) (by omega) (by unfold maxLen; omega) HB6.out.size ?_; intro A7 c7x w7 hO7 hg7; have HB7 := Lib.hid (HB6.out.grown hg7 HB6.out.size (fun k hk => Ownv.ob' HO5b.out hk)); have HO7 := Lib.hid (Own.of_eq (k := .u8) (xs := List.replicate (fi n) 0 ++ (xs.drop a).take N ++ crcSum 2 (List.replicate (fi n) 0 ++ (xs.drop a).take N)) hO7 (n' := fi n + N + 24) rfl (by simp)); clear hO7 hg7; refine hK _ _ ?_; clear hK K)
            | (at_builtin; refine list_of rfl fun K hK => wp_app1 (w := w7) (base := w3.heap.size) (.tmp 68) (.tmp 70) 55 rfl el55 rfl (.slice A7 (fi n + N + 24) c7x) rfl rfl (HBL.out.below HB7.out).o (by omega) (by omega) (Nat.le_trans HB.out.size HB7.out.size) ?_; intro A8 c8x w8 hO8 hg8; have HO8 := Lib.hid hO8; have HG8 := Lib.hid hg8; clear hO8 hg8; refine hK _ _ ?_; clear hK K))
          have hseg : segB n (((List.replicate (fi n) 0 ++ xs).drop (off n 0)).take (sz n 0 - ck n)) = List.replicate (fi n) 0 ++ (xs.drop a).take N ++ crcSum 2 (List.replicate (fi n) 0 ++ (xs.drop a).take N) := by
            rw [HDAT.out]; unfold segB; rw [if_neg hq]
          have hA7 : A7 ≠ none := own_some HO7.out (q := 0) (by omega)
          have hge := (Ownv.blk_of HO7.out hA7).1
          have hBL2 : BL w8 w3.heap.size A8 c8x (L ++ [(⟨A7, fi n + N + 24, c7x, List.replicate (fi n) 0 ++ (xs.drop a).take N ++ crcSum 2 (List.replicate (fi n) 0 ++ (xs.drop a).take N)⟩ : Sv)]) :=
            BL.push (HBL.out.below HB7.out) (s := (⟨A7, fi n + N + 24, c7x, List.replicate (fi n) 0 ++ (xs.drop a).take N ++ crcSum 2 (List.replicate (fi n) 0 ++ (xs.drop a).take N)⟩ : Sv)) (Ownv.mono HO7.out HB.out.size) hA7 (fun t ht => by have h8 := (Ownv.blk_of (HBL.out.r t ht).1 (HBL.out.r t ht).2).2; exact Nat.ne_of_lt (Nat.lt_of_lt_of_le h8 hge)) HO8.out HG8.out
          have hB8 : Below w3.heap.size w3 w8 := (HB.out.trans (HB7.out.mono HB.out.size)).grown HG8.out (Nat.le_trans HB.out.size HB7.out.size) (fun k hk => Ownv.ob' (HBL.out.below HB7.out).o hk)
          go_roundw
          case rel => exact ⟨0 + 1, a + N, A8, c8x, L ++ [(⟨A7, fi n + N + 24, c7x, List.replicate (fi n) 0 ++ (xs.drop a).take N ++ crcSum 2 (List.replicate (fi n) 0 ++ (xs.drop a).take N)⟩ : Sv)], by omega, by first | rfl | go_num, by go_num, HAS.out, by simp, hBL2, by simp [HLN.out], by rw [List.map_append, HX.out, segs_succ, hseg]; rfl, hB8⟩
          case measure => simp [intOf]; omega
        · have hj1 : 1 ≤ j := by omega
          obtain ⟨N, hN⟩ : ∃ N, N + ck n = sz n j := ⟨sz n j - ck n, by have := hsz.1; rw [if_neg (by omega)] at this; omega⟩
          have hN1 : 1 ≤ N := by have := hsz.1; rw [if_neg (by omega)] at this; omega
          have hst : off n (j + 1) = off n j + (sz n j - ck n) := rfl
          have hmo := off_le (b := n) (show j + 1 ≤ bC n by omega)
          have hf0 : fi n ≤ off n j := by
            have h9 := off_le (b := n) (show 1 ≤ j by omega)
            have h10 : off n 1 = 0 + (sz n 0 - ck n) := rfl
            have h11 := (sz_ge (i := 0) h1).1
            simp only [if_true] at h11; omega
          have ha0 := HAE.out
          have haN : a + N ≤ n := by omega
          have hdat : ((List.replicate (fi n) 0 ++ xs).drop (off n j)).take (sz n j - ck n) = (xs.drop a).take N := by
            rw [full_succ hf0, ha0]; congr 1; omega
          have haS : a + N = off n (j + 1) - fi n := by omega
          have hNI : (sz n j : Int) - 24 = (N : Int) := by omega
          have hdc : decide ((1 : Int) < (bC n : Int)) = true := by simp; omega
          have hsl : ∀ W, (Instr.sliceAt 53 (.slice A n c) (some (.int .i64 (a : Int))) (some (.int .i64 ((a : Int) + N))) none).run Try.prog W = .ok (.slice (cut A c a) N (c - a)) W := fun W => by
            have := Rdv.slI HX3.out el53 .i64 .i64 (l := a) (m := a + N) (by omega) (by omega) (a : Int) ((a : Int) + N) rfl (by omega) W
            rwa [Nat.add_sub_cancel_left] at this
          have hRx : Rd .u8 w3 (cut A c a) N (c - a) ((xs.drop a).take N) := by
            have := Rd.cut_ HX3.out (l := a) (m := a + N) (by omega) haN
            rwa [Nat.add_sub_cancel_left, List.drop_take, Nat.add_sub_cancel_left] at this
          have hNl : N ≤ 6144 := by omega
          have HRX := Lib.hid hRx
          have HDAT := Lib.hid hdat
          have HAS := Lib.hid haS
          have hszl := hsz.2
          have hll : L.length < 20 := by rw [HLN.out]; omega
          clear hdat hRx haS hst hmo hsz ha0
          have E1 := Lib.hid e1
          clear e1
          have hj0 : decide ((j : Int) = 0) = false := by simp; omega
          have hj1 : ((j : Int) == 0) = false := beq_f (by omega)
          have HBT := Lib.hid (show Bit ((xs.drop a).take N) from bit_take _ (bit_drop _ hb))
          go_wp2_with (first
            | (at_builtin; refine list_of rfl fun K hK => wp_app (base := wr.heap.size) (.tmp 50) (.tmp 56) 53 rfl el53 rfl rfl (Ownv.nilv 5 wr wr.heap.size) (Rdv.below HRX.out HB.out) (oneCell_ints .u8 _) (by omega) (by unfold maxLen; omega) (Below.refl wr.heap.size wr).size ?_; intro A5 c5x w5 hO5 hg5; have HB5 := Lib.hid ((Below.refl wr.heap.size wr).grown hg5 (Below.refl wr.heap.size wr).size (fun k hk => Ownv.ob' (Ownv.nilv 5 wr wr.heap.size) hk)); have HO5 := Lib.hid (Own.of_eq (k := .u8) (xs := (xs.drop a).take N) hO5 (n' := N) (Nat.zero_add N) (by simp)); clear hO5 hg5; obtain ⟨⟨c0, c1', c2, c3, c4, c5, c6⟩, -⟩ := Blk.seven (HL3.out.below (HB.out.trans (HB5.out.mono HB.out.size))); refine hK _ _ ?_; clear hK K)
            | (go_at_call 75; refine (rchk_any A5 _ c5x ((xs.drop a).take N) _ (Own.rd HO5.out) HBT.out (by omega)).mono ?_; rintro e w6 ⟨A6, c6x, rfl, hO6, hB6⟩; have HO6 := Lib.hid (Own.rd hO6); have HB6 := Lib.hid (HB5.out.trans (hB6.mono HB5.out.size)); have HO5b := Lib.hid (Ownv.below HO5.out hB6); clear hO6 hB6)
            | (at_builtin; refine list_of rfl fun K hK => wp_app (base := wr.heap.size) (.tmp 64) (.tmp 66) 53 rfl el53 rfl rfl HO5b.out HO6.out (oneCell_ints .u8 _) (by omega) (by unfold maxLen; omega) HB6.out.size ?_; intro A7 c7x w7 hO7 hg7; have HB7 := Lib.hid (HB6.out.grown hg7 HB6.out.size (fun k hk => Ownv.ob' HO5b.out hk)); have HO7 := Lib.hid (Own.of_eq (k := .u8) (xs := (xs.drop a).take N ++ crcSum 2 ((xs.drop a).take N)) hO7 (n' := N + 24) rfl (by simp)); clear hO7 hg7; refine hK _ _ ?_; clear hK K)
            | (at_builtin; refine list_of rfl fun K hK => wp_app1 (w := w7) (base := w3.heap.size) (.tmp 68) (.tmp 70) 55 rfl el55 rfl (.slice A7 (N + 24) c7x) rfl rfl (HBL.out.below HB7.out).o (by omega) (by omega) (Nat.le_trans HB.out.size HB7.out.size) ?_; intro A8 c8x w8 hO8 hg8; have HO8 := Lib.hid hO8; have HG8 := Lib.hid hg8; clear hO8 hg8; refine hK _ _ ?_; clear hK K))
          have hseg : segB n (((List.replicate (fi n) 0 ++ xs).drop (off n j)).take (sz n j - ck n)) = (xs.drop a).take N ++ crcSum 2 ((xs.drop a).take N) := by
            rw [HDAT.out]; unfold segB; rw [if_neg hq]
          have hA7 : A7 ≠ none := own_some HO7.out (q := 0) (by omega)
          have hge := (Ownv.blk_of HO7.out hA7).1
          have hBL2 : BL w8 w3.heap.size A8 c8x (L ++ [(⟨A7, N + 24, c7x, (xs.drop a).take N ++ crcSum 2 ((xs.drop a).take N)⟩ : Sv)]) :=
            BL.push (HBL.out.below HB7.out) (s := (⟨A7, N + 24, c7x, (xs.drop a).take N ++ crcSum 2 ((xs.drop a).take N)⟩ : Sv)) (Ownv.mono HO7.out HB.out.size) hA7 (fun t ht => by have h8 := (Ownv.blk_of (HBL.out.r t ht).1 (HBL.out.r t ht).2).2; exact Nat.ne_of_lt (Nat.lt_of_lt_of_le h8 hge)) HO8.out HG8.out
          have hB8 : Below w3.heap.size w3 w8 := (HB.out.trans (HB7.out.mono HB.out.size)).grown HG8.out (Nat.le_trans HB.out.size HB7.out.size) (fun k hk => Ownv.ob' (HBL.out.below HB7.out).o hk)
          go_roundw
          case rel => exact ⟨j + 1, a + N, A8, c8x, L ++ [(⟨A7, N + 24, c7x, (xs.drop a).take N ++ crcSum 2 ((xs.drop a).take N)⟩ : Sv)], by omega, by first | rfl | go_num, by go_num, HAS.out, by simp, hBL2, by simp [HLN.out], by rw [List.map_append, HX.out, segs_succ, hseg]; rfl, hB8⟩
          case measure => simp [intOf]; omega
    · obtain rfl : j = bC n := by omega
      go_wp2
      go_ret2
      exact ⟨A1, c1, L, rfl, HBL.out.mono HB3.out.size, HX.out, HB3.out.trans (HB.out.mono HB3.out.size)⟩
end Go.Proofs.Ytcbbkflnenkpgaa

namespace Go.Proofs.Ytcbbkflnenkpgaa
open Go.RowKit CM
set_option linter.unusedVariables false
set_option maxRecDepth 100000 in
theorem num_any (k : Int) (w : World) : Calls Try.prog 29 #[.int .i64 k] w fun e w' => e = .returned (.int .i64 k) ∧ w = w' := by
  go_enter Try.func29, Try.ntmps29
  go_wp2
  go_ret
  exact ⟨rfl, rfl⟩
theorem conv_rd {w : World} {A : Option Addr} {n c : Nat} {xs : List Int} (h : Rd .u8 w A n c xs) : (convert 53 9 (.slice A n c)).run Try.prog w = .ok (.string (strOfNums xs)) w := by
  have hu : Try.prog.underlying 9 = some .string := by kernel_rfl
  have h5 : Try.prog.underlying 5 = some (.int .u8) := by kernel_rfl
  cases A with
  | none =>
    have := Rdv.nil h rfl
    have := Rdv.le h
    obtain rfl : n = 0 := by omega
    obtain rfl : xs = [] := List.eq_nil_of_length_eq_zero h.len
    exact run_convert_bytes_nil w 53 5 el53.u h5 0 c 9 hu
  | some a =>
    by_cases hn : n = 0
    · subst hn
      obtain rfl : xs = [] := List.eq_nil_of_length_eq_zero h.len
      rw [run_convert_bytes_string w 53 9 5 _ 0 c el53.u h5 hu, run_bytesToString w a 0 c [] (by simpa using run_loadCells_list (P := Try.prog) w a [] (fun j v hj => by cases hj))]
      rfl
    · obtain ⟨b, o, hA, _⟩ := Rdv.ptr h (by have := Rdv.le h; omega)
      cases hA
      exact run_convert_bytes_arg w 53 5 el53.u h5 b o n c xs h.len (fun i hi => Rd.cell h hi) 9 hu
theorem strOf_inj {xs ys : List Int} (hx : ∀ x ∈ xs, 0 ≤ x ∧ x < 256) (hy : ∀ x ∈ ys, 0 ≤ x ∧ x < 256) (h1 : xs.map (fun n => UInt8.ofNat n.toNat) = ys.map (fun n => UInt8.ofNat n.toNat)) : xs = ys := by
  have hl : xs.length = ys.length := by simpa using congrArg List.length h1
  apply List.ext_getElem hl
  intro i hi hj
  have h2 : (xs.map (fun n => UInt8.ofNat n.toNat))[i]'(by simpa using hi) = (ys.map (fun n => UInt8.ofNat n.toNat))[i]'(by simpa using hj) := by simp only [h1]
  simp only [List.getElem_map] at h2
  have h3 := congrArg UInt8.toNat h2
  have a := hx _ (List.getElem_mem hi)
  have b := hy _ (List.getElem_mem hj)
  simp only [UInt8.toNat_ofNat'] at h3
  rw [Nat.mod_eq_of_lt (by omega), Nat.mod_eq_of_lt (by omega)] at h3
  omega
theorem strEq {xs ys : List Int} (hx : ∀ x ∈ xs, 0 ≤ x ∧ x < 256) (hy : ∀ x ∈ ys, 0 ≤ x ∧ x < 256) : ((strOfNums xs).toList == (strOfNums ys).toList) = decide (xs = ys) := by
  rw [ByteArray.toList_eq, ByteArray.toList_eq, strOfNums_data, strOfNums_data]
  by_cases h : xs = ys
  · subst h; simp
  · have h9 : ¬ (xs.map fun n => UInt8.ofNat n.toNat) = (ys.map fun n => UInt8.ofNat n.toNat) := fun e => h (strOf_inj hx hy e)
    simp only [h, decide_false]
    exact beq_eq_false_iff_ne.2 h9

def IntsInv (w : World) (n : Nat) (xs ys : List Int) (i : Value) (wr : World) : Prop := ∃ j : Nat, j ≤ n ∧ i = .int .i64 j ∧ (∀ q, q < j → gi xs q = gi ys q) ∧ Qt w wr
set_option maxRecDepth 100000 in
set_option maxHeartbeats 400000 in
theorem same5_any (A B : Option Addr) (n c m d : Nat) (xs ys : List Int) (w : World) (hx : Rd .i64 w A n c xs) (hy : Rd .i64 w B m d ys) :
    Calls Try.prog 24 #[.slice A n c, .slice B m d] w fun e w' => e = .returned (.bool (decide (xs = ys))) ∧ Qt w w' := by
  have b1 := hx.bd.1
  have b2 := hy.bd.1
  by_cases hnm : n = m
  · subst hnm
    have hne : ((n : Int) != (n : Int)) = false := bne_f rfl
    go_enter Try.func24, Try.ntmps24
    go_wp2
    go_loopw [5] (fun i wr => IntsInv w n xs ys i wr) (fun i _ => n - (intOf i).toNat)
    case atStart => exact ⟨0, by omega, rfl, by intro q hq; omega, 0, rfl⟩
    case round =>
      obtain ⟨j, hj, rfl, hv, q0, rfl⟩ := hrel
      by_cases hlt : j < n
      · have hc := Rd.cell hx hlt
        have hd := Rd.cell hy hlt
        have hix := fun W => Rdv.ix hx el34 hlt .i64 W
        have hiy := fun W => Rdv.ix hy el34 hlt .i64 W
        have HV := Lib.hid hv; clear hv
        by_cases h1 : gi xs j = gi ys j
        · have h1' := bne_f h1
          have H1 := Lib.hid h1; clear h1
          go_wp2
          go_quiet (fail)
          go_wp2
          go_roundw
          case rel => exact ⟨j + 1, by omega, by go_num, fun q hq => lt_succ_cases HV.out H1.out q hq, by first | exact ⟨_, rfl⟩ | exact Qt.drewN ⟨_, rfl⟩ _⟩
          case measure => simp [intOf]; omega
        · have h1' := bne_t h1
          have hf : decide (xs = ys) = false := by simp; rintro rfl; exact h1 rfl
          go_wp2
          go_quiet (fail)
          go_wp2
          go_ret
          exact ⟨ret_bool hf.symm, by first | exact ⟨_, rfl⟩ | exact Qt.drewN ⟨_, rfl⟩ _⟩
      · have hf : decide (xs = ys) = true := by
          have hl1 := hx.len; have hl2 := hy.len
          simp only [decide_eq_true_eq]
          refine ext_gi (by rw [hl1, hl2]) fun q hq => hv q (by omega)
        go_wp2
        go_ret
        exact ⟨ret_bool hf.symm, by first | exact ⟨_, rfl⟩ | exact Qt.drewN ⟨_, rfl⟩ _⟩
  · have hne : ((n : Int) != (m : Int)) = true := bne_t (by omega)
    have hf : decide (xs = ys) = false := by
      simp; rintro rfl; have := hx.len; have := hy.len; omega
    go_enter Try.func24, Try.ntmps24
    go_wp2
    go_ret
    exact ⟨ret_bool hf.symm, 0, rfl⟩
/-- a list of rows of bytes that can be read -/
structure RL (w : World) (A : Option Addr) (n c : Nat) (L : List Sv) : Prop where
  o : Rdv w A n c (L.map Sv.v)
  r : ∀ s ∈ L, Rd .u8 w s.A s.n s.c s.xs
theorem BL.rl {w : World} {base c : Nat} {A : Option Addr} {L : List Sv} (h : BL w base A c L) : RL w A L.length c L := ⟨h.o.rd, fun s hs => Own.rd (h.r s hs).1⟩
theorem RL.len {w : World} {A : Option Addr} {n c : Nat} {L : List Sv} (h : RL w A n c L) : L.length = n := by have := h.o.len; simpa using this
theorem RL.below {w w' : World} {A : Option Addr} {n c : Nat} {L : List Sv} (h : RL w A n c L) (hB : Below w.heap.size w w') : RL w' A n c L := ⟨Rdv.below h.o hB, fun s hs => Rdv.below (h.r s hs) hB⟩
theorem RL.drewN {w : World} {A : Option Addr} {n c : Nat} {L : List Sv} (h : RL w A n c L) (q : Nat) : RL (w.drewN q) A n c L := ⟨Rdv.drewN h.o q, fun s hs => Rdv.drewN (h.r s hs) q⟩
theorem RL.get {w : World} {A : Option Addr} {n c : Nat} {L : List Sv} (h : RL w A n c L) {j : Nat} (hj : j < n) : ∃ s, L[j]? = some s ∧ w.cell? (adr A j) = some (.slice s.A s.n s.c) ∧ Rd .u8 w s.A s.n s.c s.xs := by
  have hl := h.len
  have hj' : j < L.length := by omega
  exact ⟨L[j], List.getElem?_eq_getElem hj', h.o.at_ j _ (by simp [hj', Sv.v]), h.r _ (List.getElem_mem hj')⟩
/-- all numbers are bytes -/
def Byt (xs : List Int) : Prop := ∀ x ∈ xs, 0 ≤ x ∧ x < 256
theorem byt_bit {xs : List Int} (h : Bit xs) : Byt xs := fun x hx => by rcases h x hx with rfl | rfl <;> decide
def LsInv (w : World) (n : Nat) (L M : List Sv) (i : Value) (wr : World) : Prop := ∃ j : Nat, j ≤ n ∧ i = .int .i64 j ∧ (∀ q, q < j → (L[q]?.map (·.xs)) = (M[q]?.map (·.xs))) ∧ Qt w wr
set_option maxRecDepth 100000 in
set_option maxHeartbeats 400000 in
theorem lists_any (A B : Option Addr) (n c m d : Nat) (L M : List Sv) (w : World) (hx : RL w A n c L) (hy : RL w B m d M) (h1 : ∀ s ∈ L, Byt s.xs) (h2 : ∀ s ∈ M, Byt s.xs) :
    Calls Try.prog 36 #[.slice A n c, .slice B m d] w fun e w' => e = .returned (.bool (decide (L.map (·.xs) = M.map (·.xs)))) ∧ Qt w w' := by
  have b1 := hx.o.bd.1
  have b2 := hy.o.bd.1
  have lx := hx.len
  have ly := hy.len
  by_cases hnm : n = m
  · subst hnm
    have hne : ((n : Int) != (n : Int)) = false := bne_f rfl
    have HXL := Lib.hid lx
    have HYL := Lib.hid ly
    clear lx ly
    go_enter Try.func36, Try.ntmps36
    go_wp2
    go_loopw [5] (fun i wr => LsInv w n L M i wr) (fun i _ => n - (intOf i).toNat)
    case atStart => exact ⟨0, by omega, rfl, by intro q hq; omega, 0, rfl⟩
    case round =>
      obtain ⟨j, hj, rfl, hv, q0, rfl⟩ := hrel
      by_cases hlt : j < n
      · obtain ⟨s, hs, hc, hR⟩ := hx.get hlt
        obtain ⟨t, ht, hd, hT⟩ := hy.get hlt
        have hix := fun W => Rdv.ix hx.o el55 hlt .i64 W
        have hiy := fun W => Rdv.ix hy.o el55 hlt .i64 W
        have HV := Lib.hid hv; clear hv
        have hse := strEq (h1 s (List.mem_of_getElem? hs)) (h2 t (List.mem_of_getElem? ht))
        have k1 := fun q => conv_rd (Rdv.drewN hR q)
        have k2 := fun q => conv_rd (Rdv.drewN hT q)
        have HS := Lib.hid hs
        have HT := Lib.hid ht
        by_cases h9 : s.xs = t.xs
        · have H9 := Lib.hid h9
          rw [decide_eq_true h9] at hse
          clear hs ht h9 hR hT
          generalize strOfNums s.xs = S1 at *
          generalize strOfNums t.xs = S2 at *
          go_wp2
          go_quiet (fail)
          go_wp2
          go_roundw
          case rel => exact ⟨j + 1, by omega, by go_num, fun q hq => lt_succ_cases HV.out (by rw [HS.out, HT.out]; simp [H9.out]) q hq, by first | exact ⟨_, rfl⟩ | exact Qt.drewN ⟨_, rfl⟩ _⟩
          case measure => simp [intOf]; omega
        · have hf : decide (L.map (·.xs) = M.map (·.xs)) = false := by
            rw [decide_eq_false_iff_not]
            intro e
            have e1 := congrArg (fun l => l[j]?) e
            simp only [List.getElem?_map, hs, ht, Option.map_some, Option.some.injEq] at e1
            exact h9 e1
          have HF := Lib.hid hf
          rw [decide_eq_false h9] at hse
          clear hs ht h9 hR hT hf
          generalize strOfNums s.xs = S1 at *
          generalize strOfNums t.xs = S2 at *
          go_wp2
          go_quiet (fail)
          go_wp2
          go_ret
          exact ⟨ret_bool HF.out.symm, by first | exact ⟨_, rfl⟩ | exact Qt.drewN ⟨_, rfl⟩ _⟩
      · have hf : decide (L.map (·.xs) = M.map (·.xs)) = true := by
          rw [decide_eq_true_eq]
          apply List.ext_getElem?
          intro q
          by_cases hq : q < n
          · rw [List.getElem?_map, List.getElem?_map]; exact hv q (by omega)
          · rw [List.getElem?_eq_none (by simp [HXL.out]; omega), List.getElem?_eq_none (by simp [HYL.out]; omega)]
        have HF := Lib.hid hf
        clear hf hv
        go_wp2
        go_ret
        exact ⟨ret_bool HF.out.symm, by first | exact ⟨_, rfl⟩ | exact Qt.drewN ⟨_, rfl⟩ _⟩
  · have hne : ((n : Int) != (m : Int)) = true := bne_t (by omega)
    have hf : decide (L.map (·.xs) = M.map (·.xs)) = false := by
      rw [decide_eq_false_iff_not]
      intro e
      have := congrArg List.length e
      simp at this; omega
    have HF := Lib.hid hf
    clear hf lx ly
    go_enter Try.func36, Try.ntmps36
    go_wp2
    go_ret
    exact ⟨ret_bool HF.out.symm, 0, rfl⟩
def OnInv (w : World) (n : Nat) (A : Option Addr) (i : Value) (wr : World) : Prop := ∃ j : Nat, j ≤ n ∧ i = .int .i64 j ∧ Own .u8 5 wr w.heap.size A n n (List.replicate j 1 ++ List.replicate (n - j) 0) ∧ Below w.heap.size w wr
theorem ones_step (n j : Nat) (h : j < n) : (List.replicate j (1 : Int) ++ List.replicate (n - j) 0).set j 1 = List.replicate (j + 1) 1 ++ List.replicate (n - (j + 1)) 0 := by
  rw [List.set_append_right _ _ (by simp), List.length_replicate, Nat.sub_self, show n - j = (n - (j + 1)) + 1 by omega, List.replicate_succ, List.set_cons_zero, List.replicate_succ' (n := j), List.append_assoc]
  rfl
set_option maxRecDepth 100000 in
set_option maxHeartbeats 400000 in
theorem ones_any (n : Nat) (w : World) (hn : n ≤ 100000) : Calls Try.prog 61 #[.int .i64 n] w fun e w' => ∃ A, e = .returned (.slice A n n) ∧ Own .u8 5 w' w.heap.size A n n (List.replicate n 1) ∧ Below w.heap.size w w' := by
  go_enter Try.func61, Try.ntmps61
  go_wp2_with (at_make; refine list_of rfl fun K hK => wp_mk _ _ 53 rfl el53 rfl rfl (by omega) (by unfold maxLen; omega) ?_; intro A w1 hO hB1 hA; refine hK _ _ ?_; clear hK K)
  go_loopw [4] (fun i wr => OnInv w n A i wr) (fun i _ => n - (intOf i).toNat)
  case atStart => exact ⟨0, by omega, rfl, Own.of_eq hO rfl (by simp), hB1⟩
  case round =>
    obtain ⟨j, hj, rfl, hOj, hBj⟩ := hrel
    by_cases hlt : j < n
    · have hix := fun W => Rdv.ix (Own.rd hOj) el53 hlt .i64 W
      have hcell := Rd.cell (Own.rd hOj) hlt
      have hfz := Ownv.frozen hOj (by omega) j
      have HSET := Lib.hid (Own.set_ hOj hlt 1)
      go_wp2
      go_roundw
      case rel => exact ⟨j + 1, by omega, by go_num, Own.of_eq HSET.out.1 rfl (by rw [ones_step n j hlt]), hBj.grown HSET.out.2 hBj.size (fun k hk => by injection hk with hk; rw [← hk]; exact (Ownv.blk_ge hOj (by omega)).1)⟩
      case measure => simp [intOf]; omega
    · obtain rfl : j = n := by omega
      go_wp2
      go_ret
      exact ⟨_, rfl, Own.of_eq hOj rfl (by simp), hBj⟩
def layV (L : List Int) : Value := .agg (ints8 L).toArray
set_option maxRecDepth 100000 in
theorem plans_any (b : Nat) (w : World) (h1 : 1 ≤ b) (h2 : b ≤ 79560) (y0 y1 y2 y3 y4 y5 y6 : Int) (hy : LY b = [y0, y1, y2, y3, y4, y5, y6]) :
    Calls Try.prog 60 #[.int .i64 b, .agg #[.int .i64 y0, .int .i64 y1, .int .i64 y2, .int .i64 y3, .int .i64 y4, .int .i64 y5, .int .i64 y6]] w fun e w' => e = .returned (.bool true) ∧ Below w.heap.size w w' := by
  have hp := Lib.hid (fun W => plan_top b W h1 h2)
  rw [hy] at hp
  simp only [ints8, List.map_cons, List.map_nil] at hp
  have hB0 : Below w.heap.size w (w.alloc (.cells (ints8 [y0, y1, y2, y3, y4, y5, y6]).toArray 23)) := (Below.refl _ _).alloc (Nat.le_refl _) _
  have hK0 : Blk (w.alloc (.cells (ints8 [y0, y1, y2, y3, y4, y5, y6]).toArray 23)) w.heap.size 23 (ints8 [y0, y1, y2, y3, y4, y5, y6]) := Blk.new w _ 23 rfl
  simp only [ints8, List.map_cons, List.map_nil] at hB0 hK0
  clear hy
  go_enter Try.func60, Try.ntmps60
  go_wp2_with fail
  generalize w.alloc (.cells #[.int .i64 y0, .int .i64 y1, .int .i64 y2, .int .i64 y3, .int .i64 y4, .int .i64 y5, .int .i64 y6] 23) = W at *
  refine (hp.out W).mono ?_
  rintro e w1 ⟨rfl, hB1⟩
  have hK1 := (hK0.below hB1).alloc (.cells #[.int .i64 y0, .int .i64 y1, .int .i64 y2, .int .i64 y3, .int .i64 y4, .int .i64 y5, .int .i64 y6] 23)
  have hK2 := Blk.new w1 (ints8 [y0, y1, y2, y3, y4, y5, y6]) 23 rfl
  have hB2 := bal (hB0.trans (hB1.mono hB0.size)) (.cells #[.int .i64 y0, .int .i64 y1, .int .i64 y2, .int .i64 y3, .int .i64 y4, .int .i64 y5, .int .i64 y6] 23)
  simp only [ints8, List.map_cons, List.map_nil] at hK2
  obtain ⟨⟨c0, c1, c2, c3, c4, c5, c6⟩, -⟩ := Blk.seven hK1
  have HB2 := Lib.hid hB2
  clear hB0 hB1 hB2 hK0 hK1 hK2 hp
  go_wp2_with (go_at_call 29; refine (num_any _ _).mono ?_; rintro e w' ⟨rfl, rfl⟩)
  go_ret
  exact ⟨rfl, HB2.out⟩
end Go.Proofs.Ytcbbkflnenkpgaa

namespace Go.Proofs.Ytcbbkflnenkpgaa
open Go.RowKit CM
set_option linter.unusedVariables false
theorem below_drewN {n : Nat} {w w' : World} (h : Below n w w') (q : Nat) : Below n w (w'.drewN q) := ⟨h.1, h.2, h.3, h.4, h.5⟩
theorem Blk.ne {w : World} {b b' : Nat} {t t' : TypeId} {cs cs' : List Value} (h : Blk w b t cs) (h' : Blk w b' t' cs') (ht : t ≠ t') : b ≠ b' := by
  rintro rfl
  have := Option.some.inj (h.symm.trans h')
  simp only [Obj.cells.injEq] at this
  exact ht this.2.1
/-- all blocks are of bits -/
def jV (L : List Sv) : Bool := L.all fun s => ValidB s.xs
/-- all blocks have their sizes -/
def jS (b : Nat) (L : List Sv) : Bool := (List.range L.length).all fun j => decide (L[j]?.map Sv.n = some (sz b j))
/-- all blocks have their checksums -/
def jC (L : List Sv) : Bool := L.all fun s => decide (chkErr 2 s.xs = 0)
def jF (b : Nat) (L : List Sv) : Bool := match L[0]? with | some s => No1 (s.xs.take (fi b)) | none => true
def jErr (b : Nat) (L : List Sv) : Int :=
  if jV L = false then 3 else if L.length ≠ bC b then 60 else if jS b L = false then 60 else if jF b L = false then 60 else if ¬ b ≤ 6144 ∧ jC L = false then 61 else 0
/-- the data of the first k blocks -/
def jD (b : Nat) (L : List Sv) (k : Nat) : List Int := (L.take k).flatMap fun s => s.xs.take (s.n - ck b)
def jRes (b : Nat) (L : List Sv) : List Int := if jErr b L = 0 then (jD b L L.length).drop (fi b) else []
def JPost (b : Nat) (L : List Sv) (w : World) (e : Ending) (w' : World) : Prop := ∃ A' n' c', e = .returned (.tuple #[.slice A' n' c', .int .i64 (jErr b L)]) ∧ Rd .u8 w' A' n' c' (jRes b L) ∧ Below w.heap.size w w'
def JBad (k : Int) (w : World) (e : Ending) (w' : World) : Prop := e = .returned (.tuple #[.slice none 0 0, .int .i64 k]) ∧ Below w.heap.size w w'
theorem jbad_post {b : Nat} {L : List Sv} {k : Int} {w w' : World} {e : Ending} (h : JBad k w e w') (hk : jErr b L = k) (h0 : k ≠ 0) : JPost b L w e w' := by
  obtain ⟨rfl, hB⟩ := h
  refine ⟨none, 0, 0, by rw [hk], ?_, hB⟩
  unfold jRes
  rw [if_neg (by rw [hk]; exact h0)]
  exact Rd.nilv _ _
/-- the end of a Join that has panicked -/
theorem join_end (R : Ending → World → Prop) (w w1 : World) (TB EB : Nat) (k : Int) (v : Value) (hR : ∀ e w', JBad k w e w' → R e w') (hT : Blk w1 TB 53 [v]) (hE : Blk w1 EB 24 [.int .i64 0]) (hB : Below w.heap.size w w1) (hT0 : w.heap.size ≤ TB) (hE0 : w.heap.size ≤ EB) (hne : EB ≠ TB) (ts : Array Value) (h2 : ts.getD 4 undef = .pointer (some ⟨TB, 0, none⟩)) (h3 : ts.getD 5 undef = .pointer (some ⟨EB, 0, none⟩)) :
    Leaves Try.prog Try.f37 ts R [{ target := .fn (.func 62) #[], args := #[.pointer (some ⟨EB, 0, none⟩), .func (.func 76) #[] #[.pointer (some ⟨TB, 0, none⟩)]] }] (.panicking (pan k)) w1 := by
  refine leaves_cons (f := 62) (args := #[.pointer (some ⟨EB, 0, none⟩), .func (.func 76) #[] #[.pointer (some ⟨TB, 0, none⟩)]]) (by simp) (by simp [go_sem]) ?_
  refine (caught_pan76 ⟨EB, 0, none⟩ _ k _ (fun W => Blk W TB 53 [.slice none 0 0] ∧ w1.grownBy W (some TB)) (joinc1_any TB _ w1 hT) (fun W hW => ?_)).mono ?_
  · have hE2 := hE.grown hW.2 (by intro he; exact hne (Option.some.inj he))
    exact ⟨⟨_, hE2.cell (j := 0) rfl⟩, hE2.frozen 0⟩
  rintro e u' w'' ⟨rfl, rfl, W2, hW2, rfl⟩
  have hE2 := hE.grown hW2.2 (by intro he; exact hne (Option.some.inj he))
  have l1 := lv53 ((hW2.1.other (g := EB) hne 0 (.int .i64 k)).cell (j := 0) (v := .slice none 0 0) rfl)
  have l2 := lv24 ((hE2.set 0 (.int .i64 k)).cell (j := 0) (v := .int .i64 k) rfl)
  have hBe := (hB.grown hW2.2 hB.size (fun k hk => by cases hk; exact hT0)).setCell (p := ⟨EB, 0, none⟩) hE0 (.int .i64 k)
  have HBE := Lib.hid hBe
  clear hBe hW2 hE2 hE hT hB
  have h2' : ts[4]?.getD undef = .pointer (some ⟨TB, 0, none⟩) := by simpa using h2
  have h3' : ts[5]?.getD undef = .pointer (some ⟨EB, 0, none⟩) := by simpa using h3
  simp [Leaves, settle, results, Try.results37, h2', h3', asAddr, l1, l2, Sem.run_bind, Result.andThen]
  exact hR _ _ ⟨rfl, HBE.out⟩
set_option maxRecDepth 100000 in
theorem join_bad (b : Int) (A : Option Addr) (n c : Nat) (w : World) (h : b < 1 ∨ 79560 < b) : Calls Try.prog 37 #[.int .i64 b, .slice A n c] w (JBad 2 w) := by
  have hmf : ∀ (fn : Fn) (first cap : Array Value) (w : World), (Instr.makeFunc fn first cap).run Try.prog w = .ok (.func fn first cap) w := fun _ _ _ _ => rfl
  have HH := Lib.hid h
  clear h
  have hT0 : Blk ((w.alloc (.cells #[.slice none 0 0] 53)).alloc (.cells #[.int .i64 0] 24)) w.heap.size 53 [.slice none 0 0] := (Blk.new w [.slice none 0 0] 53 rfl).alloc _
  have hE0 : Blk ((w.alloc (.cells #[.slice none 0 0] 53)).alloc (.cells #[.int .i64 0] 24)) (w.heap.size + 1) 24 [.int .i64 0] := Blk.new _ [.int .i64 0] 24 (by simp)
  have hB0 : Below w.heap.size w ((w.alloc (.cells #[.slice none 0 0] 53)).alloc (.cells #[.int .i64 0] 24)) := ((Below.refl _ _).alloc (Nat.le_refl _) _).alloc (by simp) _
  go_enter_defers Try.func37, Try.ntmps37
  go_wp2_with fail
  generalize (w.alloc (.cells #[.slice none 0 0] 53)).alloc (.cells #[.int .i64 0] 24) = W at *
  refine (plan_bad b W HH.out).mono ?_
  rintro e w1 ⟨rfl, hB1⟩
  exact join_end _ w w1 w.heap.size (w.heap.size + 1) 2 _ (fun _ _ h => h) (hT0.below hB1) (hE0.below hB1) (hB0.trans (hB1.mono hB0.size)) (Nat.le_refl _) (by omega) (by omega) _ rfl rfl
theorem jV_f {L : List Sv} {j : Nat} {s : Sv} (h : L[j]? = some s) (hv : ValidB s.xs = false) : jV L = false := by
  unfold jV; rw [List.all_eq_false]; exact ⟨s, List.mem_of_getElem? h, by simp [hv]⟩
theorem jV_t {L : List Sv} (h : ∀ q s, q < L.length → L[q]? = some s → ValidB s.xs = true) : jV L = true := by
  unfold jV; rw [List.all_eq_true]; intro s hs
  obtain ⟨j, hj, rfl⟩ := List.getElem_of_mem hs
  exact h j _ hj (List.getElem?_eq_getElem hj)
theorem jErr_v {b : Nat} {L : List Sv} (h : jV L = false) : jErr b L = 3 := by unfold jErr; rw [if_pos h]
theorem jErr_l {b : Nat} {L : List Sv} (h : jV L = true) (h2 : L.length ≠ bC b) : jErr b L = 60 := by unfold jErr; rw [if_neg (by simp [h]), if_pos h2]
theorem jErr_s {b : Nat} {L : List Sv} (h : jV L = true) (h2 : L.length = bC b) (h3 : jS b L = false) : jErr b L = 60 := by unfold jErr; rw [if_neg (by simp [h]), if_neg (by simp [h2]), if_pos h3]
theorem jErr_f {b : Nat} {L : List Sv} (h : jV L = true) (h2 : L.length = bC b) (h3 : jS b L = true) (h4 : jF b L = false) : jErr b L = 60 := by unfold jErr; rw [if_neg (by simp [h]), if_neg (by simp [h2]), if_neg (by simp [h3]), if_pos h4]
theorem jErr_c {b : Nat} {L : List Sv} (h : jV L = true) (h2 : L.length = bC b) (h3 : jS b L = true) (h4 : jF b L = true) (h5 : ¬ b ≤ 6144) (h6 : jC L = false) : jErr b L = 61 := by unfold jErr; rw [if_neg (by simp [h]), if_neg (by simp [h2]), if_neg (by simp [h3]), if_neg (by simp [h4]), if_pos ⟨h5, h6⟩]
theorem jErr_0 {b : Nat} {L : List Sv} (h : jV L = true) (h2 : L.length = bC b) (h3 : jS b L = true) (h4 : jF b L = true) (h5 : ¬ b ≤ 6144 → jC L = true) : jErr b L = 0 := by unfold jErr; rw [if_neg (by simp [h]), if_neg (by simp [h2]), if_neg (by simp [h3]), if_neg (by simp [h4]), if_neg (by rintro ⟨h6, h7⟩; rw [h5 h6] at h7; cases h7)]
theorem jS_f {b : Nat} {L : List Sv} {j : Nat} {s : Sv} (h : L[j]? = some s) (hv : s.n ≠ sz b j) : jS b L = false := by
  unfold jS; rw [List.all_eq_false]
  refine ⟨j, by rw [List.mem_range]; exact (List.getElem?_eq_some_iff.1 h).1, ?_⟩
  rw [h]; simpa using hv
theorem jS_t {b : Nat} {L : List Sv} (h : ∀ q s, q < L.length → L[q]? = some s → s.n = sz b q) : jS b L = true := by
  unfold jS; rw [List.all_eq_true]; intro j hj
  have hj' : j < L.length := by simpa using hj
  have := h j _ hj' (List.getElem?_eq_getElem hj')
  simp [hj', this]
def JsInv (W : World) (n b : Nat) (L : List Sv) (i : Value) (wr : World) : Prop := ∃ j : Nat, j ≤ n ∧ i = .int .i64 j ∧ (∀ q s, q < j → L[q]? = some s → s.n = sz b q) ∧ Below W.heap.size W wr
theorem Rdv.slhm {w : World} {A : Option Addr} {n c : Nat} {vs : List Value} {P : Program} (h : Rdv w A n c vs) {t e : TypeId} {z : Value} {bytes : Nat} (E : El P t e z bytes) (kl kh km : IntKind) {l m : Nat} (hl : l ≤ m) (hm : m ≤ c) (W : World) :
    (Instr.sliceAt t (.slice A n c) (some (.int kl (l : Int))) (some (.int kh (m : Int))) (some (.int km (m : Int)))).run P W = .ok (.slice (cut A m l) (m - l) (m - l)) W := by
  have e1 : P.underlying t = some (.slice (P.elem t)) := by rw [E.u]; simp [Program.elem, E.u]
  have e2 : P.elem t = e := by simp [Program.elem, E.u]
  rw [run_sliceAt_slice W t _ _ _ _ e1, run_slice_lhm W t A n c e1 kl kh km l m m (by omega) (by omega) (by omega) (by omega), e2, E.s]
  simp only [Result.andThen_ok, Int.toNat_natCast, sliced, Nat.mul_one, cut]
def JlInv (w : World) (b LB TB EB : Nat) (lay : List Int) (L : List Sv) (i : Value) (wr : World) : Prop := ∃ (k : Nat) (Ao : Option Addr) (no co : Nat), k ≤ bC b ∧ i = .int .i64 k ∧ Blk wr TB 53 [.slice Ao no co] ∧ Blk wr EB 24 [.int .i64 0] ∧ Blk wr LB 99 (ints8 lay) ∧ Own .u8 5 wr w.heap.size Ao no co (jD b L k) ∧ Below w.heap.size w wr ∧ (¬ b ≤ 6144 → ∀ q s, q < k → L[q]? = some s → chkErr 2 s.xs = 0)
theorem jD_succ {b : Nat} {L : List Sv} {k : Nat} {s : Sv} (h : L[k]? = some s) : jD b L (k + 1) = jD b L k ++ s.xs.take (s.n - ck b) := by
  unfold jD; rw [take_get h, List.flatMap_append]; simp
theorem jD_len {b : Nat} {L : List Sv} (hx : ∀ s ∈ L, s.xs.length = s.n) (hz : ∀ q s, L[q]? = some s → s.n = sz b q) : ∀ k, k ≤ L.length → (jD b L k).length = off b k
  | 0, _ => by simp [jD, off]
  | k + 1, h => by
    have hk : L[k]? = some L[k] := List.getElem?_eq_getElem (by omega)
    rw [jD_succ hk, List.length_append, jD_len hx hz k (by omega), List.length_take, hx _ (List.getElem_mem (by omega)), hz _ _ hk]
    simp only [off]; omega
theorem jC_f {L : List Sv} {j : Nat} {s : Sv} (h : L[j]? = some s) (hv : chkErr 2 s.xs ≠ 0) : jC L = false := by
  unfold jC; rw [List.all_eq_false]; exact ⟨s, List.mem_of_getElem? h, by simp [hv]⟩
theorem jC_t {L : List Sv} (h : ∀ q s, q < L.length → L[q]? = some s → chkErr 2 s.xs = 0) : jC L = true := by
  unfold jC; rw [List.all_eq_true]; intro s hs
  obtain ⟨j, hj, rfl⟩ := List.getElem_of_mem hs
  simp [h j _ hj (List.getElem?_eq_getElem hj)]
theorem grownBy_of_below {n : Nat} {w w' : World} (h : Below n w w') (hn : n = w.heap.size) : ∀ B t cs, Blk w B t cs → Blk w' B t cs := fun B t cs hB => by subst hn; exact hB.below h
def JvInv (n : Nat) (L : List Sv) (i : Value) : Prop := ∃ j : Nat, j ≤ n ∧ i = .int .i64 j ∧ ∀ q s, q < j → L[q]? = some s → ValidB s.xs = true
set_option maxRecDepth 100000 in
set_option maxHeartbeats 1000000 in
theorem join_any (b : Nat) (A : Option Addr) (n c : Nat) (L : List Sv) (w : World) (h1 : 1 ≤ b) (h2 : b ≤ 79560) (hL : RL w A n c L) (hs : ∀ s ∈ L, s.n ≤ 100000) : Calls Try.prog 37 #[.int .i64 b, .slice A n c] w (JPost b L w) := by
  have hmf : ∀ (fn : Fn) (first cap : Array Value) (w : World), (Instr.makeFunc fn first cap).run Try.prog w = .ok (.func fn first cap) w := fun _ _ _ _ => rfl
  have hbd := hL.o.bd.1
  have HL0 := Lib.hid hL
  have hT0 : Blk ((w.alloc (.cells #[.slice none 0 0] 53)).alloc (.cells #[.int .i64 0] 24)) w.heap.size 53 [.slice none 0 0] := (Blk.new w [.slice none 0 0] 53 rfl).alloc _
  have hE0 : Blk ((w.alloc (.cells #[.slice none 0 0] 53)).alloc (.cells #[.int .i64 0] 24)) (w.heap.size + 1) 24 [.int .i64 0] := Blk.new _ [.int .i64 0] 24 (by simp)
  have hB0 : Below w.heap.size w ((w.alloc (.cells #[.slice none 0 0] 53)).alloc (.cells #[.int .i64 0] 24)) := ((Below.refl _ _).alloc (Nat.le_refl _) _).alloc (by simp) _
  go_enter_defers Try.func37, Try.ntmps37
  go_wp2_with fail
  generalize (w.alloc (.cells #[.slice none 0 0] 53)).alloc (.cells #[.int .i64 0] 24) = W at *
  refine (plan_ok b W h1 h2).mono ?_
  rintro e w1 ⟨rfl, hB1⟩
  have hL1 := (hL.below hB0).below (hB1.mono (Nat.le_refl _))
  have HT := Lib.hid ((hT0.below hB1).alloc (.cells (ints8 (LY b)).toArray 99))
  have HE := Lib.hid ((hE0.below hB1).alloc (.cells (ints8 (LY b)).toArray 99))
  have HB := Lib.hid (bal (hB0.trans (hB1.mono hB0.size)) (.cells (ints8 (LY b)).toArray 99))
  have hK := Blk.new w1 (ints8 (LY b)) 99 rfl
  have HRL := Lib.hid (hL1.below (bal (Below.refl _ w1) (.cells (ints8 (LY b)).toArray 99)))
  clear hT0 hE0 hB0 hB1 hL hL1
  unfold LY at hK HT HE HB HRL ⊢
  simp only [ints8, List.map_cons, List.map_nil] at hK HT HE HB HRL ⊢
  have HK := Lib.hid hK
  clear hK
  obtain ⟨TB, hTB⟩ : ∃ TB, TB = w.heap.size := ⟨_, rfl⟩
  obtain ⟨EB, hEB⟩ : ∃ EB, EB = w.heap.size + 1 := ⟨_, rfl⟩
  rw [← hEB] at HE ⊢
  rw [← hTB] at HT ⊢
  have hT0 : w.heap.size ≤ TB := by omega
  have hE0 : w.heap.size ≤ EB := by omega
  have hne : EB ≠ TB := by omega
  have hne' : TB ≠ EB := by omega
  clear hTB hEB
  go_wp2_with fail
  generalize w1.alloc (.cells #[.int .i64 b, .int .i64 (bC b : Int), .int .i64 (lo b : Int), .int .i64 (sh b : Int), .int .i64 (los b : Int), .int .i64 (shs b : Int), .int .i64 (fi b : Int)] 99) = W1 at *
  generalize w1.heap.size = LB at *
  go_loop [20] (fun i => JvInv n L i) (fun i => n - (intOf i).toNat)
  case atStart => exact ⟨0, by omega, rfl, fun q s hq => by omega⟩
  case round =>
    obtain ⟨j, hj, rfl, hv⟩ := hrel
    have HV := Lib.hid hv
    clear hv
    by_cases hlt : j < n
    · obtain ⟨s, hgs, hc, hR⟩ := HRL.out.get hlt
      have hix := fun W => Rdv.ix HRL.out.o el55 hlt .i64 W
      have HGS := Lib.hid hgs
      have hbin := Lib.hid (binary_any s.A s.n s.c s.xs W1 hR)
      clear hgs
      by_cases hvs : ValidB s.xs = true
      · have HVS := Lib.hid hvs
        rw [hvs] at hbin
        clear hvs
        go_wp2_with (first
          | (go_at_call 67; refine hbin.out.mono ?_; rintro e w' ⟨rfl, rfl⟩)
          | (go_at_call 66; refine (must_ok _ _).mono ?_; rintro e w' ⟨rfl, rfl⟩))
        go_round
        case rel => exact ⟨j + 1, by omega, by go_num, fun q t hq hqt => by
          rcases Nat.lt_succ_iff_lt_or_eq.1 hq with hq | rfl
          · exact HV.out q t hq hqt
          · rw [HGS.out] at hqt; cases hqt; exact HVS.out⟩
        case measure => simp [intOf]; omega
      · have hvf : ValidB s.xs = false := by simpa using hvs
        have HJ := Lib.hid (jErr_v (b := b) (jV_f HGS.out hvf))
        rw [hvf] at hbin
        clear hvs hvf
        go_wp2_with (first
          | (go_at_call 67; refine hbin.out.mono ?_; rintro e w' ⟨rfl, rfl⟩)
          | (go_at_call 66; refine (must_bad _ _).mono ?_; rintro e w' ⟨rfl, rfl⟩))
        exact join_end _ w _ TB EB 3 _ (fun _ _ h => jbad_post h HJ.out (by decide)) HT.out HE.out HB.out hT0 hE0 hne _ rfl rfl
    · have hjv := jV_t (L := L) (fun q s hq => HV.out q s (by rw [HRL.out.len] at hq; omega))
      have HJV := Lib.hid hjv
      clear hjv
      obtain ⟨⟨c0, c1, c2, c3, c4, c5, c6⟩, -⟩ := Blk.seven HK.out
      by_cases hnC : n = bC b
      · subst hnC
        have hC := bC_le h2
        have hCp := @bC_pos b
        go_wp2_with (go_at_call 66; refine (must_ok _ _).mono ?_; rintro e w' ⟨rfl, rfl⟩)
        clear c0 c1 c2 c3 c4 c5 c6
        go_loopw [37] (fun i wr => JsInv W1 (bC b) b L i wr) (fun i _ => bC b - (intOf i).toNat)
        case atStart => exact ⟨0, by omega, rfl, fun q s hq => by omega, Below.refl _ _⟩
        case round =>
          obtain ⟨j, hj, rfl, hv, hB2⟩ := hrel
          have HV := Lib.hid hv
          have HB2 := Lib.hid hB2
          clear hv hB2
          by_cases hlt : j < bC b
          · obtain ⟨s, hgs, hc, hR⟩ := (HRL.out.below HB2.out).get hlt
            have hix := fun W => Rdv.ix HRL.out.o el55 hlt .i64 W
            have HGS := Lib.hid hgs
            obtain ⟨⟨c0, c1, c2, c3, c4, c5, c6⟩, -⟩ := Blk.seven (HK.out.below HB2.out)
            have hsz := sz_if b j
            have HSZ := Lib.hid hsz
            clear hgs hsz hR
            by_cases hvs : s.n = sz b j
            · have HVS := Lib.hid hvs
              have hd : ((s.n : Int) == (sz b j : Int)) = true := beq_t (by omega)
              clear hvs
              go_wp2_with (first
                | (go_at_call 70; refine (size_any _ _ _ _ _ _ _ _ _).mono ?_; rintro e w3 ⟨he, hB3⟩; rw [← HSZ.out] at he; subst he; have HB3 := Lib.hid (HB2.out.trans (hB3.mono HB2.out.size)); clear hB3)
                | (go_at_call 66; refine (must_ok _ _).mono ?_; rintro e w' ⟨rfl, rfl⟩))
              go_roundw
              case rel => exact ⟨j + 1, by omega, by go_num, fun q t hq hqt => by
                rcases Nat.lt_succ_iff_lt_or_eq.1 hq with hq | rfl
                · exact HV.out q t hq hqt
                · rw [HGS.out] at hqt; cases hqt; exact HVS.out, HB3.out⟩
              case measure => simp [intOf]; omega
            · have HJ := Lib.hid (jErr_s (b := b) HJV.out HRL.out.len (jS_f HGS.out hvs))
              have hd : ((s.n : Int) == (sz b j : Int)) = false := beq_f (by omega)
              clear hvs
              go_wp2_with (first
                | (go_at_call 70; refine (size_any _ _ _ _ _ _ _ _ _).mono ?_; rintro e w3 ⟨he, hB3⟩; rw [← HSZ.out] at he; subst he; have HB3 := Lib.hid (HB2.out.trans (hB3.mono HB2.out.size)); clear hB3)
                | (go_at_call 66; refine (must_bad _ _).mono ?_; rintro e w' ⟨rfl, rfl⟩))
              exact join_end _ w _ TB EB 60 _ (fun _ _ h => jbad_post h HJ.out (by decide)) (HT.out.below HB3.out) (HE.out.below HB3.out) (HB.out.trans (HB3.out.mono HB.out.size)) hT0 hE0 hne _ rfl rfl
          · have hjs := jS_t (b := b) (L := L) (fun q s hq => HV.out q s (by rw [HRL.out.len] at hq; omega))
            have HJS := Lib.hid hjs
            clear hjs
            obtain ⟨s, hgs, hc, hR⟩ := (HRL.out.below HB2.out).get (show 0 < bC b by omega)
            have hix := fun W => Rdv.ix HRL.out.o el55 (show 0 < bC b by omega) .i64 W
            rw [show ((0 : Nat) : Int) = 0 from rfl] at hix
            obtain ⟨⟨c0, c1, c2, c3, c4, c5, c6⟩, -⟩ := Blk.seven (HK.out.below HB2.out)
            have hsn : s.n = sz b 0 := HV.out 0 s (by omega) hgs
            have hsz := (sz_ge (i := 0) h1)
            simp only [if_true] at hsz
            have hfn : fi b ≤ s.n := by omega
            have hscap := Rdv.le hR
            have hsl := fun W => Rdv.slh hR el53 .i64 (m := fi b) (by omega) W
            have HH1 := Lib.hid (fun q => has1_any s.A (fi b) s.c (s.xs.take (fi b)) _ (Rd.upto (Rdv.drewN hR q) hfn))
            have hjf : jF b L = No1 (s.xs.take (fi b)) := by unfold jF; rw [hgs]
            have HJF := Lib.hid hjf
            clear hjf hR hsz hsn hfn
            by_cases h1b : No1 (s.xs.take (fi b)) = true
            · rw [h1b] at HH1
              have HJF1 := Lib.hid (show jF b L = true by rw [HJF.out]; exact h1b)
              go_wp2
              go_still_tail 7, (by kernel_rfl)
              simp only [World.drew_eq]
              go_wp2_with (first
                | (go_at_call 77; refine (HH1.out 1).mono ?_; rintro e w' ⟨rfl, rfl⟩)
                | (go_at_call 66; refine (must_ok _ _).mono ?_; rintro e w' ⟨rfl, rfl⟩))
              have HT3 := Lib.hid (Blk.drewN (HT.out.below HB2.out) 1)
              have HE3 := Lib.hid (Blk.drewN (HE.out.below HB2.out) 1)
              have HL3 := Lib.hid (Blk.drewN (HK.out.below HB2.out) 1)
              have HB3 := Lib.hid (below_drewN (HB.out.trans (HB2.out.mono HB.out.size)) 1)
              have HZ := Lib.hid (show ∀ q s, L[q]? = some s → s.n = sz b q from fun q s hqs => HV.out q s (by have h8 := (List.getElem?_eq_some_iff.1 hqs).1; have h9 := HRL.out.len; omega) hqs)
              have HLEN := Lib.hid (show ∀ s ∈ L, s.xs.length = s.n from fun s hs => Rd.len (HL0.out.r s hs))
              clear hix hsl hc c0 c1 c2 c3 c4 c5 c6 HH1 HT HE HK HB HB2 HV hgs hscap
              generalize wr.drewN 1 = W3 at *
              have hoff := off_all h1
              have hfl := fi_lt h1 h2
              go_loopw [62] (fun i wr => JlInv w b LB TB EB (LY b) L i wr) (fun i _ => bC b - (intOf i).toNat)
              case atStart => exact ⟨0, none, 0, 0, by omega, rfl, HT3.out, HE3.out, HL3.out, Ownv.nilv 5 W3 _, HB3.out, fun _ q s hq => by omega⟩
              case round =>
                obtain ⟨k, Ao, no, co, hk, rfl, hT4, hE4, hL4, hO4, hB4, hC4⟩ := hrel
                unfold LY at hL4
                simp only [ints8, List.map_cons, List.map_nil] at hL4
                have HT4 := Lib.hid hT4
                have HE4 := Lib.hid hE4
                have HL4 := Lib.hid hL4
                have HO4 := Lib.hid hO4
                have HB4 := Lib.hid hB4
                have HC := Lib.hid hC4
                have t0 := hT4.cell (j := 0) rfl
                have t1 := hT4.frozen 0
                have e0 := hE4.cell (j := 0) rfl
                have e1 := hE4.frozen 0
                obtain ⟨⟨c0, c1, c2, c3, c4, c5, c6⟩, -⟩ := Blk.seven hL4
                have hno : no = off b k := by rw [← Rd.len (Own.rd hO4)]; exact jD_len HLEN.out HZ.out k (by rw [HRL.out.len]; exact hk)
                clear hT4 hE4 hL4 hO4 hB4 hC4
                by_cases hlt : k < bC b
                · obtain ⟨s, hgs, hc, hR⟩ := (HL0.out.below HB4.out).get hlt
                  have hix := fun W => Rdv.ix HL0.out.o el55 hlt .i64 W
                  have hsn := HZ.out k s hgs
                  have hs100 := hs s (List.mem_of_getElem? hgs)
                  have hszz := sz_ge (i := k) h1
                  have hmo := off_le (b := b) (show k + 1 ≤ bC b by omega)
                  have hst : off b (k + 1) = off b k + (sz b k - ck b) := rfl
                  have hR0 := HL0.out.r s (List.mem_of_getElem? hgs)
                  have hcap := Rdv.le hR0
                  have HGS := Lib.hid hgs
                  by_cases hb6 : b ≤ 6144
                  · have ek : ck b = 0 := by unfold ck; rw [if_pos hb6]
                    have HIF := Lib.hid (show (if (1 : Int) < (bC b : Int) then (24 : Int) else 0) = 0 from if_neg (by have := bC_one hb6; omega))
                    obtain ⟨N, hN⟩ : ∃ N, N = s.n := ⟨_, rfl⟩
                    have HNE := Lib.hid (show s.n - ck b = N by omega)
                    have hsl : ∀ W, (Instr.sliceAt 53 (.slice s.A s.n s.c) none (some (.int .i64 (s.n : Int))) none).run Try.prog W = .ok (.slice s.A N s.c) W := fun W => by rw [hN]; exact Rdv.slh hR0 el53 .i64 (by omega) W
                    have HRN := Lib.hid (show Rd .u8 w s.A N s.c (s.xs.take N) from Rd.upto hR0 (by omega))
                    have hnoN : no + N ≤ 80000 := by omega
                    have hN6 : N ≤ 6144 := by omega
                    have hs6 : s.n ≤ 6144 := by omega
                    have hwr : IntKind.i64.wrap (s.n : Int) = s.n := by rw [IntKind.wrap_i64]; omega
                    have HNO := Lib.hid hno
                    clear hno
                    clear hgs hsn hs100 hszz hmo hst hR hR0 hcap ek hN
                    go_wp2_with (go_at_call 71; refine (check_lay _ _ _ _ _ _ _ _).mono ?_; rintro e w4 ⟨he, hB5⟩; rw [HIF.out] at he; subst he; have HTX := Lib.hid (HT4.out.below hB5); have HEX := Lib.hid (HE4.out.below hB5); have HLX := Lib.hid (HL4.out.below hB5); have HOX := Lib.hid (Ownv.below HO4.out hB5); have HBX := Lib.hid (HB4.out.trans (hB5.mono HB4.out.size)); clear hB5)
                    refine wp_nopanic ?_
                    have mkS : ∀ W', Blk W' TB 53 [.slice Ao no co] → Blk W' LB 99 [.int .i64 b, .int .i64 (bC b : Int), .int .i64 (lo b : Int), .int .i64 (sh b : Int), .int .i64 (los b : Int), .int .i64 (shs b : Int), .int .i64 (fi b : Int)] → (fun W' => W'.cell? ⟨TB, 0, none⟩ = some (.slice Ao no co) ∧ W'.frozen? ⟨TB, 0, none⟩ = false ∧ W'.cell? ⟨LB, 0, none⟩ = some (.int .i64 b) ∧ W'.cell? ⟨LB, 1, none⟩ = some (.int .i64 (bC b : Int)) ∧ W'.cell? ⟨LB, 2, none⟩ = some (.int .i64 (lo b : Int)) ∧ W'.cell? ⟨LB, 3, none⟩ = some (.int .i64 (sh b : Int)) ∧ W'.cell? ⟨LB, 4, none⟩ = some (.int .i64 (los b : Int)) ∧ W'.cell? ⟨LB, 5, none⟩ = some (.int .i64 (shs b : Int)) ∧ W'.cell? ⟨LB, 6, none⟩ = some (.int .i64 (fi b : Int))) W' := fun W' g1 g2 => ⟨g1.cell (j := 0) rfl, g1.frozen 0, (Blk.seven g2).1⟩
                    have hS0 := mkS w4.drew HTX.out HLX.out
                    refine P_start (fun W' => W'.cell? ⟨TB, 0, none⟩ = some (.slice Ao no co) ∧ W'.frozen? ⟨TB, 0, none⟩ = false ∧ W'.cell? ⟨LB, 0, none⟩ = some (.int .i64 b) ∧ W'.cell? ⟨LB, 1, none⟩ = some (.int .i64 (bC b : Int)) ∧ W'.cell? ⟨LB, 2, none⟩ = some (.int .i64 (lo b : Int)) ∧ W'.cell? ⟨LB, 3, none⟩ = some (.int .i64 (sh b : Int)) ∧ W'.cell? ⟨LB, 4, none⟩ = some (.int .i64 (los b : Int)) ∧ W'.cell? ⟨LB, 5, none⟩ = some (.int .i64 (shs b : Int)) ∧ W'.cell? ⟨LB, 6, none⟩ = some (.int .i64 (fi b : Int))) 9 10 #[false, false, false, false, false, false, false, false, false, false] (by kernel_rfl) (by kernel_rfl) (by kernel_rfl) ?_
                    refine P_takeW 1 78 (.slice s.A s.n s.c) #[false, true, false, false, false, false, false, false, false, false] rfl rfl (by kernel_rfl) (by kernel_rfl) (by kernel_rfl) (by kernel_rfl) (by decide) (fun _ _ _ h => h) (Or.inl ⟨by rfl, fun W hS => by go_simp⟩) hS0 ?_
                    simp only [List.setIfInBounds_toArray, List.set_cons_zero, List.set_cons_succ]
                    refine P_takeW 2 79 (.slice s.A s.n s.c) #[false, true, true, false, false, false, false, false, false, false] rfl rfl (by kernel_rfl) (by kernel_rfl) (by kernel_rfl) (by kernel_rfl) (by decide) (fun _ _ _ h => h) (Or.inl ⟨by rfl, fun W hS => by go_simp⟩) hS0 ?_
                    simp only [List.setIfInBounds_toArray, List.set_cons_zero, List.set_cons_succ]
                    refine P_takeW 3 80 (.int .i64 s.n) #[false, true, true, true, false, false, false, false, false, false] rfl rfl (by kernel_rfl) (by kernel_rfl) (by kernel_rfl) (by kernel_rfl) (by decide) (fun _ _ _ h => h) (Or.inl ⟨by rfl, fun W hS => by go_simp⟩) hS0 ?_
                    simp only [List.setIfInBounds_toArray, List.set_cons_zero, List.set_cons_succ]
                    refine P_take 0 77 (.slice Ao no co) #[true, true, true, true, false, false, false, false, false, false] rfl rfl (by kernel_rfl) (by kernel_rfl) (by kernel_rfl) (by kernel_rfl) (by kernel_rfl) (by kernel_rfl) (by decide) (fun _ _ _ h => h) (Or.inl ⟨by rfl, fun W hS => by obtain ⟨s0, s1, s2, s3, s4, s5, s6, s7, s8⟩ := hS; go_simp⟩) hS0 ?_
                    simp only [List.setIfInBounds_toArray, List.set_cons_zero, List.set_cons_succ]
                    refine P_take 4 81 (.agg #[.int .i64 b, .int .i64 (bC b : Int), .int .i64 (lo b : Int), .int .i64 (sh b : Int), .int .i64 (los b : Int), .int .i64 (shs b : Int), .int .i64 (fi b : Int)]) #[true, true, true, true, true, false, false, false, false, false] rfl rfl (by kernel_rfl) (by kernel_rfl) (by kernel_rfl) (by kernel_rfl) (by kernel_rfl) (by kernel_rfl) (by decide) (fun _ _ _ h => h) (Or.inl ⟨by rfl, fun W hS => by obtain ⟨s0, s1, s2, s3, s4, s5, s6, s7, s8⟩ := hS; go_simp⟩) hS0 ?_
                    simp only [List.setIfInBounds_toArray, List.set_cons_zero, List.set_cons_succ]
                    refine P_oneS 5 #[true, true, true, true, true, true, false, false, false, false] rfl (by kernel_rfl) (by kernel_rfl) rfl (fun K hK => ?_)
                    go_simp
                    refine (check_lay _ _ _ _ _ _ _ _).mono ?_
                    rintro e w7 ⟨he, hB7⟩
                    rw [HIF.out] at he
                    subst he
                    have HT7 := Lib.hid ((Blk.drew HTX.out).below hB7)
                    have HE7 := Lib.hid ((Blk.drew HEX.out).below hB7)
                    have HL7 := Lib.hid ((Blk.drew HLX.out).below hB7)
                    have HO7 := Lib.hid (Ownv.below (Ownv.drew HOX.out) hB7)
                    have HB7 := Lib.hid (HBX.out.trans (((Below.refl w4.heap.size w4).drew.trans hB7).mono HBX.out.size))
                    have hS1 := mkS w7 HT7.out HL7.out
                    refine hK _ _ hS1 ?_
                    clear hK K hB7
                    refine P_takeW 6 83 (.int .i64 (s.n : Int)) #[true, true, true, true, true, true, true, false, false, false] rfl rfl (by kernel_rfl) (by kernel_rfl) (by kernel_rfl) (by kernel_rfl) (by decide) (fun _ _ _ h => h) (Or.inl ⟨by rfl, fun W hS => by go_simp⟩) hS1 ?_
                    simp only [List.setIfInBounds_toArray, List.set_cons_zero, List.set_cons_succ]
                    refine P_takeW 7 84 (.slice s.A N s.c) #[true, true, true, true, true, true, true, true, false, false] rfl rfl (by kernel_rfl) (by kernel_rfl) (by kernel_rfl) (by kernel_rfl) (by decide) (fun _ _ _ h => h) (Or.inl ⟨by rfl, fun W hS => by go_simp⟩) hS1 ?_
                    simp only [List.setIfInBounds_toArray, List.set_cons_zero, List.set_cons_succ]
                    refine P_oneS 8 #[true, true, true, true, true, true, true, true, true, false] rfl (by kernel_rfl) (by kernel_rfl) rfl (fun K hK => ?_)
                    refine wp_app (base := w.heap.size) (.tmp 77) (.tmp 84) 53 rfl el53 rfl rfl HO7.out (Rdv.below HRN.out HB7.out) (oneCell_ints .u8 _) (by omega) (by unfold maxLen; omega) HB7.out.size ?_
                    intro A8 c8 w8 hO8 hg8
                    have HT8 := Lib.hid (HT7.out.grown hg8 (blk_ne_row HT7.out HO7.out (by decide)))
                    have HE8 := Lib.hid (HE7.out.grown hg8 (blk_ne_row HE7.out HO7.out (by decide)))
                    have HL8 := Lib.hid (HL7.out.grown hg8 (blk_ne_row HL7.out HO7.out (by decide)))
                    have HB8 := Lib.hid (HB7.out.grown hg8 HB7.out.size (fun k hk => Ownv.ob' HO7.out hk))
                    have HO8 := Lib.hid (Own.of_eq (k := .u8) (xs := jD b L k ++ s.xs.take N) hO8 rfl (by rw [List.map_append]))
                    clear hO8 hg8
                    have hS2 := mkS w8 HT8.out HL8.out
                    refine hK _ _ hS2 ?_
                    clear hK K
                    have t0 := hS2.1
                    have t1 := hS2.2.1
                    refine P_one 9 #[true, true, true, true, true, true, true, true, true, true] rfl (by kernel_rfl) (by kernel_rfl) rfl (by kernel_rfl) (fun K hK => ?_)
                    go_simp
                    refine hK _ _ ?_
                    clear hK K t0 t1
                    refine P_done (by kernel_rfl) ?_ _
                    refine noPanic_normal ?_
                    have HT9 := Lib.hid (HT8.out.set 0 (.slice A8 (no + N) c8))
                    have HE9 := Lib.hid (HE8.out.other hne' 0 (.slice A8 (no + N) c8))
                    have HL9 := Lib.hid (HL8.out.other (Blk.ne HT8.out HL8.out (by decide)) 0 (.slice A8 (no + N) c8))
                    have HO9 := Lib.hid (own_set_blk HT8.out HO8.out (by decide) 0 (.slice A8 (no + N) c8))
                    have HB9 := Lib.hid (HB8.out.setCell (p := ⟨TB, 0, none⟩) hT0 (.slice A8 (no + N) c8))
                    clear hS0 hS1 hS2 mkS
                    go_wp2
                    go_roundw
                    case rel => exact ⟨k + 1, A8, no + N, c8, by omega, by go_num, HT9.out, HE9.out, HL9.out, Own.of_eq (k := .u8) HO9.out rfl (by rw [jD_succ HGS.out, HNE.out]), HB9.out, fun h => absurd hb6 h⟩
                    case measure => simp [intOf]; omega
                  · have ek : ck b = 24 := by unfold ck; rw [if_neg hb6]
                    have HIF := Lib.hid (show (if (1 : Int) < (bC b : Int) then (24 : Int) else 0) = 24 from if_pos (by have := bC_two hb6; omega))
                    obtain ⟨N, hN⟩ : ∃ N, N = s.n - 24 := ⟨_, rfl⟩
                    have HNE := Lib.hid (show s.n - ck b = N by omega)
                    have hsl : ∀ W, (Instr.sliceAt 53 (.slice s.A s.n s.c) none (some (.int .i64 ((s.n : Int) - 24))) none).run Try.prog W = .ok (.slice s.A N s.c) W := fun W => by
                      rw [show (s.n : Int) - 24 = ((N : Nat) : Int) by omega]; exact Rdv.slh hR0 el53 .i64 (by omega) W
                    have HRN := Lib.hid (show Rd .u8 w s.A N s.c (s.xs.take N) from Rd.upto hR0 (by omega))
                    have hnoN : no + N ≤ 80000 := by omega
                    have hN6 : N ≤ 6144 := by omega
                    have hs6 : s.n ≤ 6144 := by omega
                    have hs24 : 24 ≤ s.n := by omega
                    have hwr : IntKind.i64.wrap ((s.n : Int) - 24) = (s.n : Int) - 24 := by rw [IntKind.wrap_i64]; omega
                    have HNO := Lib.hid hno
                    clear hno
                    have hckA := Lib.hid (fun W h => check_any 2 s.A s.n s.c s.xs W h (by omega))
                    have HR4 := Lib.hid hR0
                    by_cases hch : chkErr 2 s.xs = 0
                    · have HCH := Lib.hid hch
                      rw [hch] at hckA
                      clear hgs hsn hs100 hszz hmo hst hR hR0 hcap ek hN hch
                      go_wp2_with (first
                        | (go_at_call 71; refine (check_lay _ _ _ _ _ _ _ _).mono ?_; rintro e w4 ⟨he, hB5⟩; rw [HIF.out] at he; subst he; have HTX := Lib.hid (HT4.out.below hB5); have HEX := Lib.hid (HE4.out.below hB5); have HLX := Lib.hid (HL4.out.below hB5); have HOX := Lib.hid (Ownv.below HO4.out hB5); have HBX := Lib.hid (HB4.out.trans (hB5.mono HB4.out.size)); clear hB5)
                        | (go_at_call 78; refine (hckA.out _ (Rdv.below HR4.out HBX.out)).mono ?_; rintro e w5 ⟨Ac, nc, cc, rfl, hOc, hB6⟩; have HTX := Lib.hid (HTX.out.below hB6); have HEX := Lib.hid (HEX.out.below hB6); have HLX := Lib.hid (HLX.out.below hB6); have HOX := Lib.hid (Ownv.below HOX.out hB6); have HBX := Lib.hid (HBX.out.trans (hB6.mono HBX.out.size)); clear hOc hB6)
                        | (go_at_call 66; refine (must_ok _ _).mono ?_; rintro e w' ⟨rfl, rfl⟩))
                      refine wp_nopanic ?_
                      have mkS : ∀ W', Blk W' TB 53 [.slice Ao no co] → Blk W' LB 99 [.int .i64 b, .int .i64 (bC b : Int), .int .i64 (lo b : Int), .int .i64 (sh b : Int), .int .i64 (los b : Int), .int .i64 (shs b : Int), .int .i64 (fi b : Int)] → (fun W' => W'.cell? ⟨TB, 0, none⟩ = some (.slice Ao no co) ∧ W'.frozen? ⟨TB, 0, none⟩ = false ∧ W'.cell? ⟨LB, 0, none⟩ = some (.int .i64 b) ∧ W'.cell? ⟨LB, 1, none⟩ = some (.int .i64 (bC b : Int)) ∧ W'.cell? ⟨LB, 2, none⟩ = some (.int .i64 (lo b : Int)) ∧ W'.cell? ⟨LB, 3, none⟩ = some (.int .i64 (sh b : Int)) ∧ W'.cell? ⟨LB, 4, none⟩ = some (.int .i64 (los b : Int)) ∧ W'.cell? ⟨LB, 5, none⟩ = some (.int .i64 (shs b : Int)) ∧ W'.cell? ⟨LB, 6, none⟩ = some (.int .i64 (fi b : Int))) W' := fun W' g1 g2 => ⟨g1.cell (j := 0) rfl, g1.frozen 0, (Blk.seven g2).1⟩
                      have hS0 := mkS w5.drew HTX.out HLX.out
                      refine P_start (fun W' => W'.cell? ⟨TB, 0, none⟩ = some (.slice Ao no co) ∧ W'.frozen? ⟨TB, 0, none⟩ = false ∧ W'.cell? ⟨LB, 0, none⟩ = some (.int .i64 b) ∧ W'.cell? ⟨LB, 1, none⟩ = some (.int .i64 (bC b : Int)) ∧ W'.cell? ⟨LB, 2, none⟩ = some (.int .i64 (lo b : Int)) ∧ W'.cell? ⟨LB, 3, none⟩ = some (.int .i64 (sh b : Int)) ∧ W'.cell? ⟨LB, 4, none⟩ = some (.int .i64 (los b : Int)) ∧ W'.cell? ⟨LB, 5, none⟩ = some (.int .i64 (shs b : Int)) ∧ W'.cell? ⟨LB, 6, none⟩ = some (.int .i64 (fi b : Int))) 9 10 #[false, false, false, false, false, false, false, false, false, false] (by kernel_rfl) (by kernel_rfl) (by kernel_rfl) ?_
                      refine P_takeW 1 78 (.slice s.A s.n s.c) #[false, true, false, false, false, false, false, false, false, false] rfl rfl (by kernel_rfl) (by kernel_rfl) (by kernel_rfl) (by kernel_rfl) (by decide) (fun _ _ _ h => h) (Or.inl ⟨by rfl, fun W hS => by go_simp⟩) hS0 ?_
                      simp only [List.setIfInBounds_toArray, List.set_cons_zero, List.set_cons_succ]
                      refine P_takeW 2 79 (.slice s.A s.n s.c) #[false, true, true, false, false, false, false, false, false, false] rfl rfl (by kernel_rfl) (by kernel_rfl) (by kernel_rfl) (by kernel_rfl) (by decide) (fun _ _ _ h => h) (Or.inl ⟨by rfl, fun W hS => by go_simp⟩) hS0 ?_
                      simp only [List.setIfInBounds_toArray, List.set_cons_zero, List.set_cons_succ]
                      refine P_takeW 3 80 (.int .i64 s.n) #[false, true, true, true, false, false, false, false, false, false] rfl rfl (by kernel_rfl) (by kernel_rfl) (by kernel_rfl) (by kernel_rfl) (by decide) (fun _ _ _ h => h) (Or.inl ⟨by rfl, fun W hS => by go_simp⟩) hS0 ?_
                      simp only [List.setIfInBounds_toArray, List.set_cons_zero, List.set_cons_succ]
                      refine P_take 0 77 (.slice Ao no co) #[true, true, true, true, false, false, false, false, false, false] rfl rfl (by kernel_rfl) (by kernel_rfl) (by kernel_rfl) (by kernel_rfl) (by kernel_rfl) (by kernel_rfl) (by decide) (fun _ _ _ h => h) (Or.inl ⟨by rfl, fun W hS => by obtain ⟨s0, s1, s2, s3, s4, s5, s6, s7, s8⟩ := hS; go_simp⟩) hS0 ?_
                      simp only [List.setIfInBounds_toArray, List.set_cons_zero, List.set_cons_succ]
                      refine P_take 4 81 (.agg #[.int .i64 b, .int .i64 (bC b : Int), .int .i64 (lo b : Int), .int .i64 (sh b : Int), .int .i64 (los b : Int), .int .i64 (shs b : Int), .int .i64 (fi b : Int)]) #[true, true, true, true, true, false, false, false, false, false] rfl rfl (by kernel_rfl) (by kernel_rfl) (by kernel_rfl) (by kernel_rfl) (by kernel_rfl) (by kernel_rfl) (by decide) (fun _ _ _ h => h) (Or.inl ⟨by rfl, fun W hS => by obtain ⟨s0, s1, s2, s3, s4, s5, s6, s7, s8⟩ := hS; go_simp⟩) hS0 ?_
                      simp only [List.setIfInBounds_toArray, List.set_cons_zero, List.set_cons_succ]
                      refine P_oneS 5 #[true, true, true, true, true, true, false, false, false, false] rfl (by kernel_rfl) (by kernel_rfl) rfl (fun K hK => ?_)
                      go_simp
                      refine (check_lay _ _ _ _ _ _ _ _).mono ?_
                      rintro e w7 ⟨he, hB7⟩
                      rw [HIF.out] at he
                      subst he
                      have HT7 := Lib.hid ((Blk.drew HTX.out).below hB7)
                      have HE7 := Lib.hid ((Blk.drew HEX.out).below hB7)
                      have HL7 := Lib.hid ((Blk.drew HLX.out).below hB7)
                      have HO7 := Lib.hid (Ownv.below (Ownv.drew HOX.out) hB7)
                      have HB7 := Lib.hid (HBX.out.trans (((Below.refl w5.heap.size w5).drew.trans hB7).mono HBX.out.size))
                      have hS1 := mkS w7 HT7.out HL7.out
                      refine hK _ _ hS1 ?_
                      clear hK K hB7
                      refine P_takeW 6 83 (.int .i64 ((s.n : Int) - 24)) #[true, true, true, true, true, true, true, false, false, false] rfl rfl (by kernel_rfl) (by kernel_rfl) (by kernel_rfl) (by kernel_rfl) (by decide) (fun _ _ _ h => h) (Or.inl ⟨by rfl, fun W hS => by go_simp⟩) hS1 ?_
                      simp only [List.setIfInBounds_toArray, List.set_cons_zero, List.set_cons_succ]
                      refine P_takeW 7 84 (.slice s.A N s.c) #[true, true, true, true, true, true, true, true, false, false] rfl rfl (by kernel_rfl) (by kernel_rfl) (by kernel_rfl) (by kernel_rfl) (by decide) (fun _ _ _ h => h) (Or.inl ⟨by rfl, fun W hS => by go_simp⟩) hS1 ?_
                      simp only [List.setIfInBounds_toArray, List.set_cons_zero, List.set_cons_succ]
                      refine P_oneS 8 #[true, true, true, true, true, true, true, true, true, false] rfl (by kernel_rfl) (by kernel_rfl) rfl (fun K hK => ?_)
                      refine wp_app (base := w.heap.size) (.tmp 77) (.tmp 84) 53 rfl el53 rfl rfl HO7.out (Rdv.below HRN.out HB7.out) (oneCell_ints .u8 _) (by omega) (by unfold maxLen; omega) HB7.out.size ?_
                      intro A8 c8 w8 hO8 hg8
                      have HT8 := Lib.hid (HT7.out.grown hg8 (blk_ne_row HT7.out HO7.out (by decide)))
                      have HE8 := Lib.hid (HE7.out.grown hg8 (blk_ne_row HE7.out HO7.out (by decide)))
                      have HL8 := Lib.hid (HL7.out.grown hg8 (blk_ne_row HL7.out HO7.out (by decide)))
                      have HB8 := Lib.hid (HB7.out.grown hg8 HB7.out.size (fun k hk => Ownv.ob' HO7.out hk))
                      have HO8 := Lib.hid (Own.of_eq (k := .u8) (xs := jD b L k ++ s.xs.take N) hO8 rfl (by rw [List.map_append]))
                      clear hO8 hg8
                      have hS2 := mkS w8 HT8.out HL8.out
                      refine hK _ _ hS2 ?_
                      clear hK K
                      have t0 := hS2.1
                      have t1 := hS2.2.1
                      refine P_one 9 #[true, true, true, true, true, true, true, true, true, true] rfl (by kernel_rfl) (by kernel_rfl) rfl (by kernel_rfl) (fun K hK => ?_)
                      go_simp
                      refine hK _ _ ?_
                      clear hK K t0 t1
                      refine P_done (by kernel_rfl) ?_ _
                      refine noPanic_normal ?_
                      have HT9 := Lib.hid (HT8.out.set 0 (.slice A8 (no + N) c8))
                      have HE9 := Lib.hid (HE8.out.other hne' 0 (.slice A8 (no + N) c8))
                      have HL9 := Lib.hid (HL8.out.other (Blk.ne HT8.out HL8.out (by decide)) 0 (.slice A8 (no + N) c8))
                      have HO9 := Lib.hid (own_set_blk HT8.out HO8.out (by decide) 0 (.slice A8 (no + N) c8))
                      have HB9 := Lib.hid (HB8.out.setCell (p := ⟨TB, 0, none⟩) hT0 (.slice A8 (no + N) c8))
                      clear hS0 hS1 hS2 mkS
                      go_wp2
                      go_roundw
                      case rel => exact ⟨k + 1, A8, no + N, c8, by omega, by go_num, HT9.out, HE9.out, HL9.out, Own.of_eq (k := .u8) HO9.out rfl (by rw [jD_succ HGS.out, HNE.out]), HB9.out, fun _ q t hq hqt => by
                        rcases Nat.lt_succ_iff_lt_or_eq.1 hq with hq | rfl
                        · exact HC.out hb6 q t hq hqt
                        · rw [HGS.out] at hqt; cases hqt; exact HCH.out⟩
                      case measure => simp [intOf]; omega
                    · have HJ := Lib.hid (jErr_c (b := b) HJV.out HRL.out.len HJS.out HJF1.out hb6 (jC_f HGS.out hch))
                      have hce : chkErr 2 s.xs = 11 := by
                        have hvx : ValidB s.xs = true := (List.all_eq_true.1 HJV.out) s (List.mem_of_getElem? HGS.out)
                        have hl := HLEN.out s (List.mem_of_getElem? HGS.out)
                        unfold chkErr at hch ⊢
                        rw [if_neg (by decide), if_pos hvx, if_neg (by rw [hl]; show ¬ s.n < 24; omega)] at hch ⊢
                        split at hch
                        · exact absurd rfl hch
                        · rename_i h9; rw [if_neg h9]
                      rw [hce] at hckA
                      clear hgs hsn hs100 hszz hmo hst hR hR0 hcap ek hN hch hce
                      go_wp2_with (first
                        | (go_at_call 71; refine (check_lay _ _ _ _ _ _ _ _).mono ?_; rintro e w4 ⟨he, hB5⟩; rw [HIF.out] at he; subst he; have HTX := Lib.hid (HT4.out.below hB5); have HEX := Lib.hid (HE4.out.below hB5); have HBX := Lib.hid (HB4.out.trans (hB5.mono HB4.out.size)); clear hB5)
                        | (go_at_call 78; refine (hckA.out _ (Rdv.below HR4.out HBX.out)).mono ?_; rintro e w5 ⟨Ac, nc, cc, rfl, hOc, hB6⟩; have HTX := Lib.hid (HTX.out.below hB6); have HEX := Lib.hid (HEX.out.below hB6); have HBX := Lib.hid (HBX.out.trans (hB6.mono HBX.out.size)); clear hOc hB6)
                        | (go_at_call 66; refine (must_bad _ _).mono ?_; rintro e w' ⟨rfl, rfl⟩))
                      exact join_end _ w _ TB EB 61 _ (fun _ _ h => jbad_post h HJ.out (by decide)) HTX.out HEX.out HBX.out hT0 hE0 hne _ rfl rfl
                · obtain rfl : k = bC b := by omega
                  have HJ := Lib.hid (jErr_0 (b := b) HJV.out HRL.out.len HJS.out HJF1.out (fun h => jC_t (fun q s hq hqs => HC.out h q s (by have := HRL.out.len; omega) hqs)))
                  have hfo : fi b ≤ no := by omega
                  have hno8 : no ≤ 80000 := by omega
                  have hrd := Own.rd HO4.out
                  have hcap := Rdv.le hrd
                  have HNO := Lib.hid hno
                  have hsl : ∀ W, (Instr.sliceAt 53 (.slice Ao no co) (some (.int .i64 (fi b : Int))) (some (.int .i64 (no : Int))) (some (.int .i64 (no : Int)))).run Try.prog W = .ok (.slice (cut Ao no (fi b)) (no - fi b) (no - fi b)) W := fun W => Rdv.slhm hrd el53 .i64 .i64 .i64 hfo hcap W
                  clear hno hrd hoff
                  go_wp2
                  have HT6 := Lib.hid ((HT4.out.set 0 (.slice (cut Ao no (fi b)) (no - fi b) (no - fi b))).other (g := EB) hne 0 (.int .i64 0))
                  have HE6 := Lib.hid ((HE4.out.other (g := TB) hne' 0 (.slice (cut Ao no (fi b)) (no - fi b) (no - fi b))).set 0 (.int .i64 0))
                  have HO6 := Lib.hid (own_set_blk (HE4.out.other (g := TB) hne' 0 (.slice (cut Ao no (fi b)) (no - fi b) (no - fi b))) (own_set_blk HT4.out HO4.out (by decide) 0 (.slice (cut Ao no (fi b)) (no - fi b) (no - fi b))) (by decide) 0 (.int .i64 0))
                  have HB6 := Lib.hid ((HB4.out.setCell (p := ⟨TB, 0, none⟩) hT0 (.slice (cut Ao no (fi b)) (no - fi b) (no - fi b))).setCell (p := ⟨EB, 0, none⟩) hE0 (.int .i64 0))
                  clear t0 t1 e0 e1 c0 c1 c2 c3 c4 c5 c6
                  generalize (wr.setCell ⟨TB, 0, none⟩ (.slice (cut Ao no (fi b)) (no - fi b) (no - fi b))).setCell ⟨EB, 0, none⟩ (.int .i64 0) = W6 at *
                  refine leaves_cons (f := 62) (args := #[.pointer (some ⟨EB, 0, none⟩), .func (.func 76) #[] #[.pointer (some ⟨TB, 0, none⟩)]]) (by simp) (by simp [go_sem]) ?_
                  refine (caught_idle ⟨EB, 0, none⟩ _ _).mono ?_
                  rintro e u' w'' ⟨rfl, rfl, rfl⟩
                  have l1 := lv53 (HT6.out.cell (j := 0) rfl)
                  have l2 := lv24 (HE6.out.cell (j := 0) rfl)
                  simp [Leaves, settle, results, Try.results37, asAddr, l1, l2, Sem.run_bind, Result.andThen]
                  refine ⟨cut Ao no (fi b), no - fi b, no - fi b, by rw [HJ.out], ?_, HB6.out⟩
                  have hjl : (jD b L (bC b)).length = no := Rd.len (Own.rd HO6.out)
                  have hr := Rd.cut_ (Rd.capped (Own.rd HO6.out) (Nat.le_refl no)) (l := fi b) (m := no) hfo (Nat.le_refl _)
                  unfold jRes
                  rw [if_pos HJ.out, HRL.out.len]
                  rw [List.take_take, Nat.min_self, List.take_of_length_le (by rw [hjl]; exact Nat.le_refl _)] at hr
                  exact hr
            · have h1f : No1 (s.xs.take (fi b)) = false := by simpa using h1b
              have HJ := Lib.hid (jErr_f (b := b) HJV.out HRL.out.len HJS.out (by rw [HJF.out]; exact h1f))
              rw [h1f] at HH1
              clear h1b h1f
              go_wp2
              go_still_tail 7, (by kernel_rfl)
              simp only [World.drew_eq]
              go_wp2_with (first
                | (go_at_call 77; refine (HH1.out 1).mono ?_; rintro e w' ⟨rfl, rfl⟩)
                | (go_at_call 66; refine (must_bad _ _).mono ?_; rintro e w' ⟨rfl, rfl⟩))
              exact join_end _ w _ TB EB 60 _ (fun _ _ h => jbad_post h HJ.out (by decide)) (Blk.drewN (HT.out.below HB2.out) 1) (Blk.drewN (HE.out.below HB2.out) 1) (below_drewN (HB.out.trans (HB2.out.mono HB.out.size)) 1) hT0 hE0 hne _ rfl rfl
      · have HJ := Lib.hid (jErr_l (b := b) HJV.out (by rw [HRL.out.len]; exact hnC))
        have hd : ((n : Int) == (bC b : Int)) = false := beq_f (by omega)
        go_wp2_with (go_at_call 66; refine (must_bad _ _).mono ?_; rintro e w' ⟨rfl, rfl⟩)
        exact join_end _ w _ TB EB 60 _ (fun _ _ h => jbad_post h HJ.out (by decide)) HT.out HE.out HB.out hT0 hE0 hne _ rfl rfl
end Go.Proofs.Ytcbbkflnenkpgaa

namespace Go.Proofs.Ytcbbkflnenkpgaa
open Go.RowKit CM
set_option linter.unusedVariables false
theorem n41 (W : World) : Calls Try.prog 22 #[.int .i64 41] W fun e w' => e = .returned (.tuple #[.int .i64 48, .int .i64 0]) ∧ Below W.heap.size W w' := next_ok 41 W (by decide)
theorem n6144 (W : World) : Calls Try.prog 22 #[.int .i64 6144] W fun e w' => e = .returned (.tuple #[.int .i64 6144, .int .i64 0]) ∧ Below W.heap.size W w' := next_ok 6144 W (by decide)
theorem n6145 (W : World) : Calls Try.prog 22 #[.int .i64 6145] W fun e w' => e = .returned (.tuple #[.int .i64 0, .int .i64 2]) ∧ W = w' := next_bad 6145 W (by decide)
theorem p0 (W : World) : Calls Try.prog 31 #[.int .i64 0] W fun e w' => e = .returned (.tuple #[.agg #[.int .i64 0, .int .i64 0, .int .i64 0, .int .i64 0, .int .i64 0, .int .i64 0, .int .i64 0], .int .i64 2]) ∧ Below W.heap.size W w' := plan_top_bad 0 W (by decide)
theorem v528 (W : World) : Calls Try.prog 27 #[.int .i64 528] W fun e w' => e = .returned (.bool true) ∧ Below W.heap.size W w' := valid_seg 528 W
theorem v520 (W : World) : Calls Try.prog 27 #[.int .i64 520] W fun e w' => e = .returned (.bool false) ∧ Below W.heap.size W w' := valid_seg 520 W
theorem pl1 (W : World) : Calls Try.prog 60 #[.int .i64 100, .agg #[.int .i64 100, .int .i64 1, .int .i64 104, .int .i64 0, .int .i64 1, .int .i64 0, .int .i64 4]] W fun e w' => e = .returned (.bool true) ∧ Below W.heap.size W w' :=
  plans_any 100 W (by decide) (by decide) 100 1 104 0 1 0 4 (by decide)
theorem pl2 (W : World) : Calls Try.prog 60 #[.int .i64 6144, .agg #[.int .i64 6144, .int .i64 1, .int .i64 6144, .int .i64 0, .int .i64 1, .int .i64 0, .int .i64 0]] W fun e w' => e = .returned (.bool true) ∧ Below W.heap.size W w' :=
  plans_any 6144 W (by decide) (by decide) 6144 1 6144 0 1 0 0 (by decide)
theorem pl3 (W : World) : Calls Try.prog 60 #[.int .i64 6145, .agg #[.int .i64 6145, .int .i64 2, .int .i64 3136, .int .i64 3072, .int .i64 1, .int .i64 1, .int .i64 15]] W fun e w' => e = .returned (.bool true) ∧ Below W.heap.size W w' :=
  plans_any 6145 W (by decide) (by decide) 6145 2 3136 3072 1 1 15 (by decide)
/-- the block of the example -/
def b40 : List Int := [0, 0] ++ List.replicate 38 1
theorem segs38 : segs 38 (List.replicate (fi 38) 0 ++ List.replicate 38 1) (bC 38) = [b40] := by decide
def SpW (w : World) (e : Ending) (w' : World) : Prop := ∃ A' c' s, e = .returned (.tuple #[.slice A' 1 c', .int .i64 0]) ∧ BL w' w.heap.size A' c' [s] ∧ s.xs = b40 ∧ Below w.heap.size w w'
theorem sp38 (A : Option Addr) (W : World) (h : Rd .u8 W A 38 38 (List.replicate 38 1)) : Calls Try.prog 34 #[.slice A 38 38] W (SpW W) := by
  refine (split_ok A 38 38 (List.replicate 38 1) W h (by decide) (by decide) (by decide)).mono ?_
  rintro e w' ⟨A', c', L, rfl, hBL, hxs, hB⟩
  rw [segs38] at hxs
  have hl := congrArg List.length hxs
  simp only [List.length_map, List.length_singleton] at hl
  obtain ⟨s, rfl⟩ := List.length_eq_one_iff.1 hl
  have hx : s.xs = b40 := by simpa using hxs
  exact ⟨A', c', s, rfl, hBL, hx, hB⟩
theorem jerr38 (s : Sv) (h : s.xs = b40) (hn : s.n = 40) : jErr 38 [s] = 0 ∧ jRes 38 [s] = List.replicate 38 1 := by
  have e : jErr 38 [s] = 0 := jErr_0 (by unfold jV; simp [h]; decide) (by show 1 = _; decide) (by unfold jS; simp [hn]; decide) (by unfold jF; simp [h]; decide) (fun h9 => absurd (by decide) h9)
  refine ⟨e, ?_⟩
  unfold jRes
  rw [if_pos e]
  simp [jD, hn, h]
  decide
theorem jerr37 (s : Sv) (h : s.xs = b40) (hn : s.n = 40) : jErr 37 [s] = 60 :=
  jErr_f (by unfold jV; simp [h]; decide) (by show 1 = _; decide) (by unfold jS; simp [hn]; decide) (by unfold jF; simp [h]; decide)
set_option maxRecDepth 100000 in
set_option maxHeartbeats 2000000 in
theorem works_any (w : World) : Calls Try.prog 30 #[] w fun e w' => e = .returned (.bool true) ∧ Below w.heap.size w w' := by
  go_enter Try.func30, Try.ntmps30
  go_wp2_with fail
  refine (n41 _).mono ?_
  rintro e w1 ⟨rfl, hB1⟩
  go_wp2_with fail
  refine (n6144 _).mono ?_
  rintro e w2 ⟨rfl, hB2⟩
  go_wp2_with fail
  refine (n6145 _).mono ?_
  rintro e w' ⟨rfl, rfl⟩
  go_wp2_with fail
  refine (p0 _).mono ?_
  rintro e w3 ⟨rfl, hB3⟩
  go_wp2_with fail
  refine (num_any _ _).mono ?_
  rintro e w' ⟨rfl, rfl⟩
  go_wp2_with fail
  refine (num_any _ _).mono ?_
  rintro e w' ⟨rfl, rfl⟩
  go_wp2_with fail
  refine (num_any _ _).mono ?_
  rintro e w' ⟨rfl, rfl⟩
  go_wp2_with fail
  refine (v528 _).mono ?_
  rintro e w4 ⟨rfl, hB4⟩
  go_wp2_with fail
  refine (v520 _).mono ?_
  rintro e w5 ⟨rfl, hB5⟩
  go_wp2_with fail
  refine (sizes_any _).mono ?_
  rintro e w6 ⟨Az, cz, rfl, hOz, hB6⟩
  go_wp2_with fail
  refine (num_any _ _).mono ?_
  rintro e w' ⟨rfl, rfl⟩
  go_wp2_with fail
  refine (pl1 _).mono ?_
  rintro e w7 ⟨rfl, hB7⟩
  go_wp2_with fail
  refine (pl2 _).mono ?_
  rintro e w8 ⟨rfl, hB8⟩
  go_wp2_with fail
  refine (pl3 _).mono ?_
  rintro e w9 ⟨rfl, hB9⟩
  go_wp2_with fail
  refine (ones_any 38 _ (by decide)).mono ?_
  rintro e w10 ⟨A10, rfl, hO10, hB10⟩
  go_wp2_with fail
  refine (sp38 _ _ (Own.rd hO10)).mono ?_
  rintro e w11 ⟨A', c', s, rfl, hBL, hxs, hB11⟩
  have hsr := (hBL.r s (by simp)).1
  have hsn : s.n = 40 := by have := Rd.len (Own.rd hsr); rw [hxs] at this; exact this.symm
  have hRL := hBL.rl
  obtain ⟨j1, j2⟩ := jerr38 s hxs hsn
  have j3 := jerr37 s hxs hsn
  have hj38 := Lib.hid (fun W h => join_any 38 A' 1 c' [s] W (by decide) (by decide) h (fun t ht => by simp at ht; subst ht; omega))
  have hj37 := Lib.hid (fun W h => join_any 37 A' 1 c' [s] W (by decide) (by decide) h (fun t ht => by simp at ht; subst ht; omega))
  unfold JPost at hj38 hj37
  have j4 : jRes 37 [s] = [] := by unfold jRes; rw [if_neg (by rw [j3]; decide)]
  rw [j1, j2] at hj38
  rw [j3, j4] at hj37
  have hc : w11.cell? (adr A' 0) = some (.slice s.A 40 s.c) := by have := hRL.o.at_ 0 s.v rfl; rw [this]; simp [Sv.v, hsn]
  have hix : ∀ W, (Instr.indexAt 55 (.slice A' 1 c') (.int .i64 0)).run Try.prog W = .ok (.pointer (some (adr A' 0))) W := fun W => Rdv.ix hRL.o el55 (j := 0) (show 0 < 1 by decide) .i64 W
  have hsr' : Rd .u8 w11 s.A 40 s.c b40 := by have := Own.rd hsr; rw [hsn, hxs] at this; exact this
  have hx0 : ∀ W, (Instr.indexAt 53 (.slice s.A 40 s.c) (.int .i64 0)).run Try.prog W = .ok (.pointer (some (adr s.A 0))) W := fun W => Rdv.ix hsr' el53 (j := 0) (by decide) .i64 W
  have hx1 : ∀ W, (Instr.indexAt 53 (.slice s.A 40 s.c) (.int .i64 1)).run Try.prog W = .ok (.pointer (some (adr s.A 1))) W := fun W => Rdv.ix hsr' el53 (j := 1) (by decide) .i64 W
  have hc0 : w11.cell? (adr s.A 0) = some (.int .u8 0) := Rd.cell hsr' (j := 0) (by decide)
  have hc1 : w11.cell? (adr s.A 1) = some (.int .u8 0) := Rd.cell hsr' (j := 1) (by decide)
  have HRL := Lib.hid hRL
  clear hRL hsr hsr' hxs hsn j1 j2 j3 j4 hBL
  go_wp2_with fail
  refine (num_any _ _).mono ?_
  rintro e w' ⟨rfl, rfl⟩
  go_wp2_with fail
  refine (hj38.out _ HRL.out).mono ?_
  rintro e w12 ⟨X, xn, xc, rfl, hX, hB12⟩
  go_wp2_with fail
  refine (hj37.out _ (HRL.out.below hB12)).mono ?_
  rintro e w13 ⟨Y, yn, yc, rfl, hY, hB13⟩
  have hxn : xn = 38 := by have := hX.len; simpa using this.symm
  subst hxn
  have hX13 := Rdv.below hX hB13
  go_wp2_with fail
  have hse : ((strOfNums (List.replicate 38 1)).toList == (strOfNums (List.replicate 38 1)).toList) = true := by simp
  have KX := Lib.hid (fun W (h : Below w13.heap.size w13 W) => conv_rd (Rdv.below hX13 h))
  have k0 := KX.out _ ((Below.refl _ w13).drew)
  obtain ⟨S1, hS1⟩ : ∃ S, S = strOfNums (List.replicate 38 1) := ⟨_, rfl⟩
  rw [← hS1] at hse k0 KX
  have HS1 := Lib.hid hS1
  clear hS1
  refine P_start (fun W' => (convert 53 9 (.slice X 38 xc)).run Try.prog W' = .ok (.string S1) W') 4 16 #[false, false, false, false, false, false, false, false, false, false, false, false, false, false, false, false] (by kernel_rfl) (by kernel_rfl) (by kernel_rfl) ?_
  refine P_takeW 0 126 (.slice X 38 xc) #[true, false, false, false, false, false, false, false, false, false, false, false, false, false, false, false] rfl rfl (by kernel_rfl) (by kernel_rfl) (by kernel_rfl) (by kernel_rfl) (by decide) (fun _ _ _ h => h) (Or.inl ⟨by rfl, fun W hS => by go_simp⟩) k0 ?_
  simp only [List.setIfInBounds_toArray, List.set_cons_zero, List.set_cons_succ]
  refine P_take 1 127 (.string S1) #[true, true, false, false, false, false, false, false, false, false, false, false, false, false, false, false] rfl rfl (by kernel_rfl) (by kernel_rfl) (by kernel_rfl) (by kernel_rfl) (by kernel_rfl) (by kernel_rfl) (by decide) (fun _ _ _ h => h) (Or.inl ⟨by rfl, fun W hS => by go_simp⟩) k0 ?_
  simp only [List.setIfInBounds_toArray, List.set_cons_zero, List.set_cons_succ]
  refine P_oneS 2 #[true, true, true, false, false, false, false, false, false, false, false, false, false, false, false, false] rfl (by kernel_rfl) (by kernel_rfl) rfl (fun K hK => ?_)
  go_simp
  refine (ones_any 38 _ (by decide)).mono ?_
  rintro e w14 ⟨A14, rfl, hO14, hB14⟩
  have k1 := KX.out _ (((Below.refl _ w13).drew).trans hB14)
  have k2 := conv_rd (Own.rd hO14)
  rw [← HS1.out] at k2
  refine hK _ _ k1 ?_
  clear hK K
  refine P_oneS 3 #[true, true, true, true, false, false, false, false, false, false, false, false, false, false, false, false] rfl (by kernel_rfl) (by kernel_rfl) rfl (fun K hK => ?_)
  go_simp
  refine hK _ _ k1 ?_
  clear hK K
  refine P_one 4 #[true, true, true, true, true, false, false, false, false, false, false, false, false, false, false, false] rfl (by kernel_rfl) (by kernel_rfl) rfl (by kernel_rfl) (fun K hK => ?_)
  go_simp
  refine hK _ _ ?_
  clear hK K
  refine P_one 5 #[true, true, true, true, true, true, false, false, false, false, false, false, false, false, false, false] rfl (by kernel_rfl) (by kernel_rfl) rfl (by kernel_rfl) (fun K hK => ?_)
  go_simp
  refine hK _ _ ?_
  clear hK K
  refine P_oneG 6 #[true, true, true, true, true, true, true, false, false, false, false, false, false, false, false, false] rfl (by kernel_rfl) (by kernel_rfl) (by rfl) (by kernel_rfl) (fun K hK => ?_)
  go_simp
  refine hK _ _ ?_
  clear hK K
  refine P_oneG 7 #[true, true, true, true, true, true, true, true, false, false, false, false, false, false, false, false] rfl (by kernel_rfl) (by kernel_rfl) (by rfl) (by kernel_rfl) (fun K hK => ?_)
  go_simp
  refine (num_any _ _).mono ?_
  rintro e w' ⟨rfl, rfl⟩
  refine hK _ _ ?_
  clear hK K
  refine P_oneG 8 #[true, true, true, true, true, true, true, true, true, false, false, false, false, false, false, false] rfl (by kernel_rfl) (by kernel_rfl) (by rfl) (by kernel_rfl) (fun K hK => ?_)
  go_simp
  refine hK _ _ ?_
  clear hK K
  refine P_one 9 #[true, true, true, true, true, true, true, true, true, true, false, false, false, false, false, false] rfl (by kernel_rfl) (by kernel_rfl) rfl (by kernel_rfl) (fun K hK => ?_)
  go_simp
  refine hK _ _ ?_
  clear hK K
  refine P_one 10 #[true, true, true, true, true, true, true, true, true, true, true, false, false, false, false, false] rfl (by kernel_rfl) (by kernel_rfl) rfl (by kernel_rfl) (fun K hK => ?_)
  go_simp
  refine hK _ _ ?_
  clear hK K
  refine P_oneG 11 #[true, true, true, true, true, true, true, true, true, true, true, true, false, false, false, false] rfl (by kernel_rfl) (by kernel_rfl) (by rfl) (by kernel_rfl) (fun K hK => ?_)
  go_simp
  refine hK _ _ ?_
  clear hK K
  refine P_oneG 12 #[true, true, true, true, true, true, true, true, true, true, true, true, true, false, false, false] rfl (by kernel_rfl) (by kernel_rfl) (by rfl) (by kernel_rfl) (fun K hK => ?_)
  go_simp
  refine (num_any _ _).mono ?_
  rintro e w' ⟨rfl, rfl⟩
  refine hK _ _ ?_
  clear hK K
  refine P_oneG 13 #[true, true, true, true, true, true, true, true, true, true, true, true, true, true, false, false] rfl (by kernel_rfl) (by kernel_rfl) (by rfl) (by kernel_rfl) (fun K hK => ?_)
  go_simp
  refine hK _ _ ?_
  clear hK K
  refine P_one 14 #[true, true, true, true, true, true, true, true, true, true, true, true, true, true, true, false] rfl (by kernel_rfl) (by kernel_rfl) rfl (by kernel_rfl) (fun K hK => ?_)
  go_simp
  refine hK _ _ ?_
  clear hK K
  refine P_one 15 #[true, true, true, true, true, true, true, true, true, true, true, true, true, true, true, true] rfl (by kernel_rfl) (by kernel_rfl) rfl (by kernel_rfl) (fun K hK => ?_)
  go_simp
  refine hK _ _ ?_
  clear hK K
  refine P_done (by kernel_rfl) ?_ _
  have d1 := hB1
  have d2 := d1.trans (hB2.mono d1.size)
  have d3 := d2.trans (hB3.mono d2.size)
  have d4 := (bal d3 _).trans (hB4.mono (bal d3 _).size)
  have d5 := d4.trans (hB5.mono d4.size)
  have d6 := d5.trans (hB6.mono d5.size)
  have d7 := d6.trans (hB7.mono d6.size)
  have d8 := d7.trans (hB8.mono d7.size)
  have d9 := d8.trans (hB9.mono d8.size)
  have d10 := d9.trans (hB10.mono d9.size)
  have d11 := d10.trans (hB11.mono d10.size)
  have d12 := d11.trans (hB12.mono d11.size)
  have d13 := d12.trans (hB13.mono d12.size)
  have d14 := d13.trans ((((Below.refl _ w13).drew).trans hB14).mono d13.size)
  have HD := Lib.hid d14
  clear d1 d2 d3 d4 d5 d6 d7 d8 d9 d10 d11 d12 d13 d14 hB1 hB2 hB3 hB4 hB5 hB6 hB7 hB8 hB9 hB10 hB11 hB12 hB13 hB14
  go_wp2
  go_ret
  exact ⟨rfl, HD.out⟩
end Go.Proofs.Ytcbbkflnenkpgaa

namespace Go.Proofs.Ytcbbkflnenkpgaa
open Go.RowKit CM
set_option linter.unusedVariables false
theorem byt_set {xs : List Int} {j : Nat} {v : Int} (h : Byt xs) (hv : 0 ≤ v ∧ v < 256) : Byt (xs.set j v) := fun x hx => by
  rcases List.mem_or_eq_of_mem_set hx with hx | rfl
  · exact h x hx
  · exact hv
theorem byt_zeros (n : Nat) : Byt (List.replicate n 0) := fun x hx => by rw [List.mem_replicate] at hx; rw [hx.2]; decide
def PbInv (w : World) (cs : List Value) (n : Nat) (A : Option Addr) (x i : Value) (wr : World) : Prop := ∃ (j : Nat) (v : Int) (xs : List Int), j ≤ n ∧ i = .int .i64 j ∧ x = .int .u32 v ∧ Own .u8 5 wr w.heap.size A n n xs ∧ Byt xs ∧ Below w.heap.size w wr ∧ Blk wr w.heap.size 52 cs
def PbPost (w : World) (e : Ending) (w' : World) : Prop := ∃ (n : Nat) (A : Option Addr) (xs : List Int), n ≤ 30000 ∧ e = .returned (.slice A n n) ∧ Own .u8 5 w' w.heap.size A n n xs ∧ Byt xs ∧ Below w.heap.size w w'
theorem pat_len (l : Int) : ∃ n : Nat, n ≤ 30000 ∧ (n : Int) = max 0 (min 30000 l) := ⟨(max 0 (min 30000 l)).toNat, by omega, by omega⟩
set_option maxRecDepth 100000 in
set_option maxHeartbeats 1000000 in
theorem bits_any (l s a y : Int) (w : World) (hy : 0 ≤ y ∧ y < 256) : Calls Try.prog 33 #[.agg #[.int .i64 l, .int .i64 s, .int .i64 a, .int .u8 y]] w (PbPost w) := by
  have HY := Lib.hid hy
  clear hy
  have hK0 := Blk.new w [.int .i64 l, .int .i64 s, .int .i64 a, .int .u8 y] 52 rfl
  have HB0 := Lib.hid (show Below w.heap.size w (w.alloc (.cells [.int .i64 l, .int .i64 s, .int .i64 a, .int .u8 y].toArray 52)) from (Below.refl _ _).alloc (Nat.le_refl _) _)
  have HK0 := Lib.hid hK0
  clear hK0
  obtain ⟨n, hn, he⟩ : ∃ n : Nat, n ≤ 30000 ∧ ((l ≤ 0 ∧ n = 0) ∨ (0 < l ∧ l < 30000 ∧ l = n) ∨ (30000 ≤ l ∧ n = 30000)) := by
    by_cases h1 : l ≤ 0
    · exact ⟨0, by omega, .inl ⟨h1, rfl⟩⟩
    · by_cases h2 : l < 30000
      · exact ⟨l.toNat, by omega, .inr (.inl ⟨by omega, h2, by omega⟩)⟩
      · exact ⟨30000, by omega, .inr (.inr ⟨by omega, rfl⟩)⟩
  rcases he with ⟨h1, rfl⟩ | ⟨h0, h1, hl⟩ | ⟨h1, rfl⟩
  case inl =>
    go_enter Try.func33, Try.ntmps33
    go_wp2_with (at_make; refine list_of rfl fun K hK => wp_mk (n := 0) (kl := .i64) (kr := .i64) _ _ 53 rfl el53 rfl rfl (by omega) (by unfold maxLen; omega) ?_; intro A w2 hO hB2 hA; have HO := Lib.hid hO; have HB2 := Lib.hid (HB0.out.trans (hB2.mono HB0.out.size)); have HK2 := Lib.hid (HK0.out.below hB2); have k1 := HK2.out.cell (j := 1) rfl; clear hO hB2; refine hK _ _ ?_; clear hK K)
    have hN3 : 0 ≤ 30000 := by omega
    go_loopw [4, 5] (fun x i wr => PbInv w [.int .i64 l, .int .i64 s, .int .i64 a, .int .u8 y] 0 A x i wr) (fun _ i _ => 0 - (intOf i).toNat)
    case atStart => exact ⟨0, _, List.replicate 0 0, by omega, rfl, rfl, Own.of_eq (Ownv.mono HO.out (by simp)) rfl (by rw [List.map_replicate]), byt_zeros _, HB2.out, HK2.out⟩
    case round =>
      obtain ⟨j, v, xs, hj, rfl, rfl, hO3, hby, hB3, hK3⟩ := hrel
      have HO3 := Lib.hid hO3
      have HBY := Lib.hid hby
      have HB3 := Lib.hid hB3
      have HK3 := Lib.hid hK3
      clear hO3 hby hB3 hK3
      by_cases hlt : j < 0
      ·
        exact absurd hlt (by omega)
      · have a2 := HK3.out.cell (j := 2) rfl
        have a3 := HK3.out.cell (j := 3) rfl
        by_cases ha : 0 ≤ a ∧ a < 0
        · exact absurd ha (by omega)
        · rcases (by omega : a < 0 ∨ (0 : Int) ≤ a) with ha2 | ha2
          all_goals
            clear ha
            go_wp2
            go_ret
            exact ⟨0, A, xs, hN3, rfl, HO3.out, HBY.out, HB3.out⟩
  case inr.inl =>
    have HL := Lib.hid hl
    have HN := Lib.hid hn
    clear hl hn
    go_enter Try.func33, Try.ntmps33
    go_wp2_with (at_make; refine list_of rfl fun K hK => wp_mk (n := n) (kl := .i64) (kr := .i64) _ _ 53 rfl el53 (by rw [← HL.out]; rfl) (by rw [← HL.out]; rfl) (by have := HN.out; omega) (by have := HN.out; unfold maxLen; omega) ?_; intro A w2 hO hB2 hA; have HO := Lib.hid hO; have HB2 := Lib.hid (HB0.out.trans (hB2.mono HB0.out.size)); have HK2 := Lib.hid (HK0.out.below hB2); have k1 := HK2.out.cell (j := 1) rfl; clear hO hB2; refine hK _ _ ?_; clear hK K)
    have hn := HN.out
    clear HN h0 h1 HL
    have hN3 : n ≤ 30000 := by omega
    go_loopw [4, 5] (fun x i wr => PbInv w [.int .i64 l, .int .i64 s, .int .i64 a, .int .u8 y] n A x i wr) (fun _ i _ => n - (intOf i).toNat)
    case atStart => exact ⟨0, _, List.replicate n 0, by omega, rfl, rfl, Own.of_eq (Ownv.mono HO.out (by simp)) rfl (by rw [List.map_replicate]), byt_zeros _, HB2.out, HK2.out⟩
    case round =>
      obtain ⟨j, v, xs, hj, rfl, rfl, hO3, hby, hB3, hK3⟩ := hrel
      have HO3 := Lib.hid hO3
      have HBY := Lib.hid hby
      have HB3 := Lib.hid hB3
      have HK3 := Lib.hid hK3
      clear hO3 hby hB3 hK3
      by_cases hlt : j < n
      ·
        have hix := fun W => Rdv.ix (Own.rd HO3.out) el53 hlt .i64 W
        have hcell := Rd.cell (Own.rd HO3.out) hlt
        have hfz := Ownv.frozen HO3.out (by omega) j
        have HSET := Lib.hid (fun v => Own.set_ HO3.out hlt v)
        have HNE := Lib.hid (blk_ne_row HK3.out HO3.out (by decide))
        have HCE := Lib.hid (Ownv.blk_ge HO3.out (by omega))
        go_wp2
        go_roundw
        case rel => exact ⟨j + 1, _, _, by omega, by go_num, rfl, (HSET.out _).1, byt_set HBY.out (by omega), HB3.out.grown (HSET.out _).2 HB3.out.size (fun k hk => by injection hk with hk; rw [← hk]; exact HCE.out.1), HK3.out.grown (HSET.out _).2 (fun he => own_ne_blk HK3.out HO3.out (by decide) (own_some HO3.out hlt) (Option.some.inj he).symm)⟩
        case measure => simp [intOf]; omega
      · have a2 := HK3.out.cell (j := 2) rfl
        have a3 := HK3.out.cell (j := 3) rfl
        by_cases ha : 0 ≤ a ∧ a < n
        · obtain ⟨q, rfl⟩ : ∃ q : Nat, a = q := ⟨a.toNat, by omega⟩
          have hq : q < n := by omega
          have hix := fun W => Rdv.ix (Own.rd HO3.out) el53 hq .i64 W
          have hcell := Rd.cell (Own.rd HO3.out) hq
          have hfz := Ownv.frozen HO3.out (by omega) q
          have HSET := Lib.hid (Own.set_ HO3.out hq y)
          have HCE := Lib.hid (Ownv.blk_ge HO3.out (by omega))
          clear ha
          go_wp2
          go_ret
          exact ⟨n, A, _, hN3, rfl, HSET.out.1, byt_set HBY.out HY.out, HB3.out.grown HSET.out.2 HB3.out.size (fun k hk => by injection hk with hk; rw [← hk]; exact HCE.out.1)⟩
        · rcases (by omega : a < 0 ∨ (n : Int) ≤ a) with ha2 | ha2
          all_goals
            clear ha
            go_wp2
            go_ret
            exact ⟨n, A, xs, hN3, rfl, HO3.out, HBY.out, HB3.out⟩
  case inr.inr =>
    go_enter Try.func33, Try.ntmps33
    go_wp2_with (at_make; refine list_of rfl fun K hK => wp_mk (n := 30000) (kl := .i64) (kr := .i64) _ _ 53 rfl el53 rfl rfl (by omega) (by unfold maxLen; omega) ?_; intro A w2 hO hB2 hA; have HO := Lib.hid hO; have HB2 := Lib.hid (HB0.out.trans (hB2.mono HB0.out.size)); have HK2 := Lib.hid (HK0.out.below hB2); have k1 := HK2.out.cell (j := 1) rfl; clear hO hB2; refine hK _ _ ?_; clear hK K)
    obtain ⟨N, hN⟩ : ∃ N : Nat, N = 30000 := ⟨_, rfl⟩
    rw [← hN] at HO ⊢
    have hN3 : N ≤ 30000 := by omega
    clear hN h1
    go_loopw [4, 5] (fun x i wr => PbInv w [.int .i64 l, .int .i64 s, .int .i64 a, .int .u8 y] N A x i wr) (fun _ i _ => N - (intOf i).toNat)
    case atStart => exact ⟨0, _, List.replicate N 0, by omega, rfl, rfl, Own.of_eq (Ownv.mono HO.out (by simp)) rfl (by rw [List.map_replicate]), byt_zeros _, HB2.out, HK2.out⟩
    case round =>
      obtain ⟨j, v, xs, hj, rfl, rfl, hO3, hby, hB3, hK3⟩ := hrel
      have HO3 := Lib.hid hO3
      have HBY := Lib.hid hby
      have HB3 := Lib.hid hB3
      have HK3 := Lib.hid hK3
      clear hO3 hby hB3 hK3
      by_cases hlt : j < N
      ·
        have hix := fun W => Rdv.ix (Own.rd HO3.out) el53 hlt .i64 W
        have hcell := Rd.cell (Own.rd HO3.out) hlt
        have hfz := Ownv.frozen HO3.out (by omega) j
        have HSET := Lib.hid (fun v => Own.set_ HO3.out hlt v)
        have HNE := Lib.hid (blk_ne_row HK3.out HO3.out (by decide))
        have HCE := Lib.hid (Ownv.blk_ge HO3.out (by omega))
        go_wp2
        go_roundw
        case rel => exact ⟨j + 1, _, _, by omega, by go_num, rfl, (HSET.out _).1, byt_set HBY.out (by omega), HB3.out.grown (HSET.out _).2 HB3.out.size (fun k hk => by injection hk with hk; rw [← hk]; exact HCE.out.1), HK3.out.grown (HSET.out _).2 (fun he => own_ne_blk HK3.out HO3.out (by decide) (own_some HO3.out hlt) (Option.some.inj he).symm)⟩
        case measure => simp [intOf]; omega
      · have a2 := HK3.out.cell (j := 2) rfl
        have a3 := HK3.out.cell (j := 3) rfl
        by_cases ha : 0 ≤ a ∧ a < N
        · obtain ⟨q, rfl⟩ : ∃ q : Nat, a = q := ⟨a.toNat, by omega⟩
          have hq : q < N := by omega
          have hix := fun W => Rdv.ix (Own.rd HO3.out) el53 hq .i64 W
          have hcell := Rd.cell (Own.rd HO3.out) hq
          have hfz := Ownv.frozen HO3.out (by omega) q
          have HSET := Lib.hid (Own.set_ HO3.out hq y)
          have HCE := Lib.hid (Ownv.blk_ge HO3.out (by omega))
          clear ha
          go_wp2
          go_ret
          exact ⟨N, A, _, hN3, rfl, HSET.out.1, byt_set HBY.out HY.out, HB3.out.grown HSET.out.2 HB3.out.size (fun k hk => by injection hk with hk; rw [← hk]; exact HCE.out.1)⟩
        · rcases (by omega : a < 0 ∨ (N : Int) ≤ a) with ha2 | ha2
          all_goals
            clear ha
            go_wp2
            go_ret
            exact ⟨N, A, xs, hN3, rfl, HO3.out, HBY.out, HB3.out⟩
end Go.Proofs.Ytcbbkflnenkpgaa

namespace Go.Proofs.Ytcbbkflnenkpgaa
open Go.RowKit CM
set_option linter.unusedVariables false
set_option maxRecDepth 100000 in
theorem rsplit_bad (A : Option Addr) (n c : Nat) (w : World) (hn : n ≤ 100000) (h : n < 1 ∨ 79560 < n) : Calls Try.prog 35 #[.slice A n c] w (SpBad 2 w) := by
  have HP := Lib.hid (fun W => rplan_bad (n : Int) W (by omega))
  simp only [ints8, zero7, List.map_cons, List.map_nil] at HP
  clear h
  go_enter Try.func35, Try.ntmps35
  go_wp2_with fail
  refine (HP.out _).mono ?_
  rintro e w1 ⟨rfl, hB1⟩
  have HB := Lib.hid (bal hB1 (.cells #[.int .i64 0, .int .i64 0, .int .i64 0, .int .i64 0, .int .i64 0, .int .i64 0, .int .i64 0] 23))
  clear hB1
  go_wp2
  go_ret2
  exact ⟨rfl, HB.out⟩
set_option maxRecDepth 100000 in
theorem rsplit_bit (A : Option Addr) (n c : Nat) (xs : List Int) (w : World) (hx : Rd .u8 w A n c xs) (h1 : 1 ≤ n) (h2 : n ≤ 79560) (hv : ValidB xs = false) : Calls Try.prog 35 #[.slice A n c] w (SpBad 3 w) := by
  have HP := Lib.hid (fun W => rplan_ok n W h1 h2)
  unfold RpPost LY at HP
  simp only [ints8, List.map_cons, List.map_nil] at HP
  have HX := Lib.hid hx
  go_enter Try.func35, Try.ntmps35
  go_wp2_with fail
  refine (HP.out _).mono ?_
  rintro e w1 ⟨rfl, hB1⟩
  have HB := Lib.hid (fun o => bal hB1 o)
  have hb := Lib.hid (fun o => right_any A n c xs (w1.alloc o) (Rdv.alloc (Rdv.below HX.out hB1) o))
  rw [hv] at hb
  clear hB1
  go_wp2_with fail
  refine (hb.out _).mono ?_
  rintro e w' ⟨rfl, rfl⟩
  go_wp2
  go_ret2
  exact ⟨rfl, HB.out _⟩
/-- the error of a Split -/
def sE (xs : List Int) : Int := if xs.length < 1 ∨ 79560 < xs.length then 2 else if ValidB xs = true then 0 else 3
/-- the blocks of a Split -/
def sD (xs : List Int) : List (List Int) := if sE xs = 0 then segs xs.length (List.replicate (fi xs.length) 0 ++ xs) (bC xs.length) else []
structure SpAllS (w : World) (xs : List Int) (w' : World) (A' : Option Addr) (n' c' : Nat) (L : List Sv) : Prop where
  b : BL w' w.heap.size A' c' L
  n : n' = L.length
  l : L.map (·.xs) = sD xs
  y : ∀ s ∈ L, Bit s.xs
  k : Below w.heap.size w w'
def SpAll (xs : List Int) (w : World) (e : Ending) (w' : World) : Prop := ∃ A' n' c' L, e = .returned (.tuple #[.slice A' n' c', .int .i64 (sE xs)]) ∧ SpAllS w xs w' A' n' c' L
theorem segB_bit {b : Nat} {d : List Int} (h : Bit d) : Bit (segB b d) := by
  unfold segB; split
  · exact h
  · exact bit_app h (bit_sum (by decide) h)
theorem segs_bit {b k : Nat} {full : List Int} (h : Bit full) : ∀ d ∈ segs b full k, Bit d := by
  intro d hd
  unfold segs at hd
  obtain ⟨i, _, rfl⟩ := List.mem_map.1 hd
  exact segB_bit (bit_take _ (bit_drop _ h))
theorem SpAll.bad {xs : List Int} {k : Int} {w w' : World} {e : Ending} (h : SpBad k w e w') (hk : sE xs = k) (h0 : k ≠ 0) : SpAll xs w e w' := by
  obtain ⟨rfl, hB⟩ := h
  exact ⟨none, 0, 0, [], by rw [hk], BL.nil _ _, rfl, by unfold sD; rw [if_neg (by rw [hk]; exact h0)]; rfl, by simp, hB⟩
theorem SpAll.ok {xs : List Int} {w w' : World} {A' : Option Addr} {c' : Nat} {L : List Sv} (hb : Bit xs) (hE : sE xs = 0) (hBL : BL w' w.heap.size A' c' L) (hxs : L.map (·.xs) = segs xs.length (List.replicate (fi xs.length) 0 ++ xs) (bC xs.length)) (hB : Below w.heap.size w w') : SpAll xs w (.returned (.tuple #[.slice A' L.length c', .int .i64 0])) w' := by
  refine ⟨A', L.length, c', L, by rw [hE], hBL, rfl, by unfold sD; rw [if_pos hE]; exact hxs, fun s hs => ?_, hB⟩
  have h1 : s.xs ∈ L.map (·.xs) := List.mem_map.2 ⟨s, hs, rfl⟩
  rw [hxs] at h1
  exact segs_bit (bit_app (bit_zeros _) hb) _ h1
theorem split_all (A : Option Addr) (n c : Nat) (xs : List Int) (w : World) (hx : Rd .u8 w A n c xs) (hy : Byt xs) : Calls Try.prog 34 #[.slice A n c] w (SpAll xs w) := by
  have hl := hx.len
  by_cases h : n < 1 ∨ 79560 < n
  · exact (split_bad A n c w h).mono fun e w' he => SpAll.bad he (by unfold sE; rw [hl, if_pos h]) (by decide)
  · by_cases hv : ValidB xs = true
    · have hE : sE xs = 0 := by unfold sE; rw [hl, if_neg h, if_pos hv]
      refine (split_ok A n c xs w hx (by omega) (by omega) hv).mono ?_
      rintro e w' ⟨A', c', L, rfl, hBL, hxs, hB⟩
      exact SpAll.ok (bit_of (fun x hx => (hy x hx).1) hv) hE hBL (by rw [hl]; exact hxs) hB
    · have hf : ValidB xs = false := by simpa using hv
      exact (split_bit A n c xs w hx (by omega) (by omega) hf).mono fun e w' he => SpAll.bad he (by unfold sE; rw [hl, if_neg h, if_neg hv]) (by decide)
theorem rsplit_all (A : Option Addr) (n c : Nat) (xs : List Int) (w : World) (hx : Rd .u8 w A n c xs) (hy : Byt xs) (hn : n ≤ 100000) : Calls Try.prog 35 #[.slice A n c] w (SpAll xs w) := by
  have hl := hx.len
  by_cases h : n < 1 ∨ 79560 < n
  · exact (rsplit_bad A n c w hn h).mono fun e w' he => SpAll.bad he (by unfold sE; rw [hl, if_pos h]) (by decide)
  · by_cases hv : ValidB xs = true
    · have hE : sE xs = 0 := by unfold sE; rw [hl, if_neg h, if_pos hv]
      have hb := bit_of (fun x hx => (hy x hx).1) hv
      refine (rsplit_ok A n c xs w hx (by omega) (by omega) hb).mono ?_
      rintro e w' ⟨A', c', L, rfl, hBL, hxs, hB⟩
      exact SpAll.ok hb hE hBL (by rw [hl]; exact hxs) hB
    · have hf : ValidB xs = false := by simpa using hv
      exact (rsplit_bit A n c xs w hx (by omega) (by omega) hf).mono fun e w' he => SpAll.bad he (by unfold sE; rw [hl, if_neg h, if_neg hv]) (by decide)
end Go.Proofs.Ytcbbkflnenkpgaa

namespace Go.Proofs.Ytcbbkflnenkpgaa
open Go.RowKit CM
set_option linter.unusedVariables false
def RjsInv (W : World) (n b : Nat) (L : List Sv) (i : Value) (wr : World) : Prop := ∃ j : Nat, j ≤ n ∧ i = .int .i64 j ∧ (∀ q s, q < j → L[q]? = some s → s.n = sz b q) ∧ Qt W wr
def RjfInv (f : Nat) (xs : List Int) (i : Value) : Prop := ∃ j : Nat, j ≤ f ∧ i = .int .i64 j ∧ ∀ q, q < j → gi xs q = 0
/-- the bits of the first k blocks without the filler bits -/
def rD (b : Nat) (L : List Sv) (k : Nat) : List Int := (jD b L k).drop (fi b)
def RjInv (w : World) (b LB : Nat) (lay : List Int) (L : List Sv) (out i : Value) (wr : World) : Prop := ∃ (k : Nat) (Ao : Option Addr) (no co : Nat), k ≤ bC b ∧ i = .int .i64 k ∧ out = .slice Ao no co ∧ no = off b k - fi b ∧ Own .u8 5 wr w.heap.size Ao no co (rD b L k) ∧ Blk wr LB 23 (ints8 lay) ∧ Below w.heap.size w wr ∧ (¬ b ≤ 6144 → ∀ q s, q < k → L[q]? = some s → chkErr 2 s.xs = 0)
set_option maxRecDepth 100000 in
theorem rjoin_bad (b : Int) (A : Option Addr) (n c : Nat) (w : World) (h : b < 1 ∨ 79560 < b) : Calls Try.prog 38 #[.int .i64 b, .slice A n c] w (JBad 2 w) := by
  have HP := Lib.hid (fun W => rplan_bad b W h)
  simp only [ints8, zero7, List.map_cons, List.map_nil] at HP
  clear h
  go_enter Try.func38, Try.ntmps38
  go_wp2_with fail
  refine (HP.out _).mono ?_
  rintro e w1 ⟨rfl, hB1⟩
  have HB := Lib.hid (bal hB1 (.cells #[.int .i64 0, .int .i64 0, .int .i64 0, .int .i64 0, .int .i64 0, .int .i64 0, .int .i64 0] 23))
  clear hB1
  go_wp2
  go_ret2
  exact ⟨rfl, HB.out⟩
theorem gi_take (xs : List Int) {j m : Nat} (h : j < m) : gi (xs.take m) j = gi xs j := by simp [gi, List.getD, List.getElem?_take, h]
theorem rD_zero {b : Nat} {L : List Sv} : rD b L 0 = [] := by simp [rD, jD]
theorem rD_one {b : Nat} {L : List Sv} {s : Sv} (h : L[0]? = some s) : rD b L (0 + 1) = (s.xs.take (s.n - ck b)).drop (fi b) := by
  unfold rD; rw [jD_succ h]; simp [jD]
theorem rD_succ {b : Nat} {L : List Sv} {k : Nat} {s : Sv} (h : L[k]? = some s) (hf : fi b ≤ (jD b L k).length) : rD b L (k + 1) = rD b L k ++ s.xs.take (s.n - ck b) := by
  unfold rD; rw [jD_succ h, List.drop_append_of_le_length hf]
theorem bit_of_v {xs : List Int} (h : Byt xs) (hv : ValidB xs = true) : Bit xs := fun x hx => by
  have h1 := (List.all_eq_true.1 hv) x hx
  have h2 := h x hx
  simp only [decide_eq_true_eq] at h1
  omega
set_option maxRecDepth 100000 in
set_option maxHeartbeats 1000000 in
theorem rjoin_any (b : Nat) (A : Option Addr) (n c : Nat) (L : List Sv) (w : World) (h1 : 1 ≤ b) (h2 : b ≤ 79560) (hL : RL w A n c L) (hs : ∀ s ∈ L, s.n ≤ 100000) (hy : ∀ s ∈ L, Byt s.xs) : Calls Try.prog 38 #[.int .i64 b, .slice A n c] w (JPost b L w) := by
  have hbd := hL.o.bd.1
  have HL0 := Lib.hid hL
  have HY := Lib.hid hy
  have HS100 := Lib.hid hs
  have HPL := Lib.hid (fun W => rplan_ok b W h1 h2)
  have HEA := Lib.hid (fun W => reach_ok b W h1 h2)
  have HLY := Lib.hid (show LY b = [(b : Int), (bC b : Int), (lo b : Int), (sh b : Int), (los b : Int), (shs b : Int), (fi b : Int)] from rfl)
  unfold RpPost at HPL
  rw [HLY.out] at HPL
  simp only [ints8, List.map_cons, List.map_nil] at HPL
  clear hL hs hy
  go_enter Try.func38, Try.ntmps38
  go_wp2_with (first | (go_at_call 32; refine (HPL.out _).mono ?_; rintro e w1 ⟨rfl, hB1⟩; have HB1 := Lib.hid hB1; clear hB1))
  have hK := Blk.new w1 (ints8 [(b : Int), (bC b : Int), (lo b : Int), (sh b : Int), (los b : Int), (shs b : Int), (fi b : Int)]) 23 rfl
  have hB2 := bal HB1.out (.cells (ints8 [(b : Int), (bC b : Int), (lo b : Int), (sh b : Int), (los b : Int), (shs b : Int), (fi b : Int)]).toArray 23)
  simp only [ints8, List.map_cons, List.map_nil] at hK hB2
  have HK := Lib.hid hK
  have HB := Lib.hid hB2
  have HRL := Lib.hid (HL0.out.below hB2)
  clear hK hB2 HB1
  generalize w1.alloc (.cells #[.int .i64 b, .int .i64 (bC b : Int), .int .i64 (lo b : Int), .int .i64 (sh b : Int), .int .i64 (los b : Int), .int .i64 (shs b : Int), .int .i64 (fi b : Int)] 23) = W1 at *
  generalize w1.heap.size = LB at *
  go_loop [8] (fun i => JvInv n L i) (fun i => n - (intOf i).toNat)
  case atStart => exact ⟨0, by omega, rfl, fun q s hq => by omega⟩
  case round =>
    obtain ⟨j, hj, rfl, hv⟩ := hrel
    have HV := Lib.hid hv
    clear hv
    by_cases hlt : j < n
    · obtain ⟨s, hgs, hc, hR⟩ := HRL.out.get hlt
      have hix := fun W => Rdv.ix HRL.out.o el55 hlt .i64 W
      have HGS := Lib.hid hgs
      have hbin := Lib.hid (right_any s.A s.n s.c s.xs W1 hR)
      clear hgs
      by_cases hvs : ValidB s.xs = true
      · have HVS := Lib.hid hvs
        rw [hvs] at hbin
        clear hvs
        go_wp2_with (go_at_call 74; refine hbin.out.mono ?_; rintro e w' ⟨rfl, rfl⟩)
        go_round
        case rel => exact ⟨j + 1, by omega, by go_num, fun q t hq hqt => by
          rcases Nat.lt_succ_iff_lt_or_eq.1 hq with hq | rfl
          · exact HV.out q t hq hqt
          · rw [HGS.out] at hqt; cases hqt; exact HVS.out⟩
        case measure => simp [intOf]; omega
      · have hvf : ValidB s.xs = false := by simpa using hvs
        have HJ := Lib.hid (jErr_v (b := b) (jV_f HGS.out hvf))
        rw [hvf] at hbin
        clear hvs hvf
        go_wp2_with (go_at_call 74; refine hbin.out.mono ?_; rintro e w' ⟨rfl, rfl⟩)
        go_ret2
        exact jbad_post ⟨rfl, HB.out⟩ HJ.out (by decide)
    · have hjv := jV_t (L := L) (fun q s hq => HV.out q s (by rw [HRL.out.len] at hq; omega))
      have HJV := Lib.hid hjv
      clear hjv HV
      by_cases hnC : n = bC b
      · subst hnC
        have hC := bC_le h2
        have hCp := @bC_pos b
        go_wp2_with (go_at_call 39; refine (HEA.out _).mono ?_; rintro e w3 ⟨As, cs, rfl, hOs, hB3⟩; have HK3 := Lib.hid (HK.out.below hB3); have HB3 := Lib.hid (HB.out.trans (hB3.mono HB.out.size)); have HS3 := Lib.hid (Own.rd hOs); clear hOs hB3)
        clear hlt hj
        have HRL3 := Lib.hid (HL0.out.below HB3.out)
        go_loopw [10] (fun i wr => RjsInv w3 (bC b) b L i wr) (fun i _ => bC b - (intOf i).toNat)
        case atStart => exact ⟨0, by omega, rfl, fun q s hq => by omega, Qt.refl _⟩
        case round =>
          obtain ⟨j, hj, rfl, hv, q0, rfl⟩ := hrel
          have HV := Lib.hid hv
          clear hv
          by_cases hlt : j < bC b
          · obtain ⟨s, hgs, hc, hR⟩ := HRL3.out.get hlt
            have hix := fun W => Rdv.ix HRL3.out.o el55 hlt .i64 W
            have hiy := fun W => Rdv.ix HS3.out el34 hlt .i64 W
            have hcz := Rd.cell HS3.out hlt
            rw [gi_szs _ _ _ hlt] at hcz
            have HGS := Lib.hid hgs
            clear hgs hR
            by_cases hvs : s.n = sz b j
            · have HVS := Lib.hid hvs
              have hd : ((s.n : Int) != (sz b j : Int)) = false := bne_f (by omega)
              clear hvs
              go_wp2
              go_quiet (fail)
              go_wp2
              go_roundw
              case rel => exact ⟨j + 1, by omega, by go_num, fun q t hq hqt => by
                rcases Nat.lt_succ_iff_lt_or_eq.1 hq with hq | rfl
                · exact HV.out q t hq hqt
                · rw [HGS.out] at hqt; cases hqt; exact HVS.out, by first | exact ⟨_, rfl⟩ | exact Qt.drewN ⟨_, rfl⟩ _⟩
              case measure => simp [intOf]; omega
            · have HJ := Lib.hid (jErr_s (b := b) HJV.out HRL.out.len (jS_f HGS.out hvs))
              have hd : ((s.n : Int) != (sz b j : Int)) = true := bne_t (by omega)
              clear hvs
              go_wp2
              go_quiet (fail)
              go_wp2
              go_ret2
              exact jbad_post ⟨rfl, by first | exact below_drewN HB3.out _ | exact below_drewN (below_drewN HB3.out _) _⟩ HJ.out (by decide)
          · have hjs := jS_t (b := b) (L := L) (fun q s hq => HV.out q s (by rw [HRL.out.len] at hq; omega))
            have HJS := Lib.hid hjs
            have HZ := Lib.hid (show ∀ q s, L[q]? = some s → s.n = sz b q from fun q s hqs => HV.out q s (by have h8 := (List.getElem?_eq_some_iff.1 hqs).1; have h9 := HRL.out.len; omega) hqs)
            have HLEN := Lib.hid (show ∀ s ∈ L, s.xs.length = s.n from fun s hs => Rd.len (HL0.out.r s hs))
            clear hjs HV
            have HK4 := Lib.hid (Blk.drewN HK3.out q0)
            have HB4 := Lib.hid (below_drewN HB3.out q0)
            clear HK3 HB3 HRL3 HS3
            generalize w3.drewN q0 = W4 at *
            have HRL4 := Lib.hid (HL0.out.below HB4.out)
            obtain ⟨s0, hg0, hc0, hR0⟩ := HRL4.out.get (show 0 < bC b by omega)
            have hix0 := fun W => Rdv.ix HRL4.out.o el55 (show 0 < bC b by omega) .i64 W
            rw [show ((0 : Nat) : Int) = 0 from rfl] at hix0
            have HG0 := Lib.hid hg0
            have hs0n := HZ.out 0 s0 hg0
            have hsz := (sz_ge (i := 0) h1)
            simp only [if_true] at hsz
            have hfl := fi_lt h1 h2
            have hf0 : fi b ≤ s0.n := by omega
            have HR0 := Lib.hid hR0
            have HF0 := Lib.hid (show jF b L = No1 (s0.xs.take (fi b)) by unfold jF; rw [hg0])
            have HBI := Lib.hid (show Bit s0.xs from bit_of_v (HY.out s0 (List.mem_of_getElem? hg0)) ((List.all_eq_true.1 HJV.out) s0 (List.mem_of_getElem? hg0)))
            clear hg0 hR0 hs0n hsz
            go_wp2
            clear hlt hj
            go_loop [11] (fun i => RjfInv (fi b) s0.xs i) (fun i => fi b - (intOf i).toNat)
            case atStart => exact ⟨0, by omega, rfl, fun q hq => by omega⟩
            case round =>
              obtain ⟨j, hj, rfl, hv⟩ := hrel
              have HV := Lib.hid hv
              clear hv
              obtain ⟨⟨c0, c1, c2, c3, c4, c5, c6⟩, -⟩ := Blk.seven HK4.out
              by_cases hlt : j < fi b
              · have hcx := Rd.cell HR0.out (show j < s0.n by omega)
                have hixx := fun W => Rdv.ix HR0.out el53 (show j < s0.n by omega) .i64 W
                by_cases hz : gi s0.xs j = 0
                · have HZ0 := Lib.hid hz
                  rw [hz] at hcx
                  clear hz
                  go_wp2
                  go_round
                  case rel => exact ⟨j + 1, by omega, by go_num, fun q hq => by
                    rcases Nat.lt_succ_iff_lt_or_eq.1 hq with hq | rfl
                    · exact HV.out q hq
                    · exact HZ0.out⟩
                  case measure => simp [intOf]; omega
                · have hg1 : gi s0.xs j = 1 := by
                    rcases HBI.out _ (gi_mem s0.xs j (show j < s0.xs.length by have := Rd.len HR0.out; omega)) with h | h
                    · exact absurd h hz
                    · exact h
                  have hjf : jF b L = false := by
                    rw [HF0.out]
                    refine no1_f (j := j) (by have := Rd.len HR0.out; rw [List.length_take]; omega) ?_
                    rw [gi_take _ hlt]; exact hg1
                  have HJ := Lib.hid (jErr_f (b := b) HJV.out HRL.out.len HJS.out hjf)
                  rw [hg1] at hcx
                  clear hz hg1 hjf
                  go_wp2
                  go_ret2
                  exact jbad_post ⟨rfl, HB4.out⟩ HJ.out (by decide)
              · have hjf : jF b L = true := by
                  rw [HF0.out]
                  have hl0 := Rd.len HR0.out
                  refine no1_t (fun q hq => ?_)
                  rw [List.length_take] at hq
                  rw [gi_take _ (show q < fi b by omega), HV.out q (by omega)]
                  decide
                have HJF := Lib.hid hjf
                clear hjf
                go_wp2
                clear c0 c1 c2 c3 c4 c5 c6 hlt hj HV HR0 HF0 hix0 hc0
                have hoff := off_all h1
                clear HBI HG0 HRL4
                go_loopw [12, 13] (fun o i wr => RjInv w b LB (LY b) L o i wr) (fun _ i _ => bC b - (intOf i).toNat)
                case atStart => exact ⟨0, none, 0, 0, by omega, rfl, rfl, by simp [off], by rw [rD_zero]; exact Own.nilv .u8 5 W4 _, HK4.out, HB4.out, fun _ q s hq => by omega⟩
                case round =>
                  obtain ⟨k, Ao, no, co, hk, rfl, rfl, hno, hO4, hL4, hB4, hC4⟩ := hrel
                  unfold LY at hL4
                  simp only [ints8, List.map_cons, List.map_nil] at hL4
                  have HL5 := Lib.hid hL4
                  have HO5 := Lib.hid hO4
                  have HB5 := Lib.hid hB4
                  have HC := Lib.hid hC4
                  have HNO := Lib.hid hno
                  obtain ⟨⟨c0, c1, c2, c3, c4, c5, c6⟩, -⟩ := Blk.seven hL4
                  clear hO4 hL4 hB4 hC4 hno
                  by_cases hlt : k < bC b
                  · obtain ⟨s, hgs, hc, hR⟩ := (HL0.out.below HB5.out).get hlt
                    have hix := fun W => Rdv.ix HL0.out.o el55 hlt .i64 W
                    have hsn := HZ.out k s hgs
                    have hszz := sz_ge (i := k) h1
                    have hmo := off_le (b := b) (show k + 1 ≤ bC b by omega)
                    have hst : off b (k + 1) = off b k + (sz b k - ck b) := rfl
                    have hR0 := HL0.out.r s (List.mem_of_getElem? hgs)
                    have hcap := Rdv.le hR0
                    have hxl := Rd.len hR0
                    have HGS := Lib.hid hgs
                    have hvx : ValidB s.xs = true := (List.all_eq_true.1 HJV.out) s (List.mem_of_getElem? hgs)
                    have HBI := Lib.hid (show Bit s.xs from bit_of_v (HY.out s (List.mem_of_getElem? hgs)) hvx)
                    have hnol : no ≤ 80000 := by have := HNO.out; omega
                    have hjl := jD_len HLEN.out HZ.out k (by rw [HRL.out.len]; omega)
                    have hff : k ≠ 0 → fi b ≤ off b k := fun h => by
                      have h9 := off_le (b := b) (show 1 ≤ k by omega)
                      have h10 : off b 1 = 0 + (sz b 0 - ck b) := rfl
                      have h11 := (sz_ge (i := 0) h1).1
                      simp only [if_true] at h11; omega
                    clear hR hoff hgs
                    by_cases hb6 : b ≤ 6144
                    · have e1 := bC_one hb6
                      have ek : ck b = 0 := by unfold ck; rw [if_pos hb6]
                      obtain ⟨N, hN⟩ : ∃ N, N + fi b = s.n := ⟨s.n - fi b, by have := hszz.1; rw [if_pos (by omega)] at this; omega⟩
                      have hN6 : N ≤ 6144 := by omega
                      have hk0 : ((k : Int) == 0) = true := beq_t (by omega)
                      have hkz : k = 0 := by omega
                      have hdc : decide ((1 : Int) < (bC b : Int)) = false := by simp; omega
                      have hsl : ∀ W, (Instr.sliceAt 53 (.slice s.A s.n s.c) (some (.int .i64 (fi b : Int))) none none).run Try.prog W = .ok (.slice (cut s.A s.c (fi b)) N (s.c - fi b)) W := fun W => by
                        have := Rdv.sll hR0 el53 .i64 (l := fi b) (by omega) W
                        rwa [show s.n - fi b = N by omega] at this
                      have HRN := Lib.hid (show Rd .u8 w (cut s.A s.c (fi b)) N (s.c - fi b) (s.xs.drop (fi b)) by
                        (have h9 := Rd.cut_ hR0 (l := fi b) (m := s.n) (by omega) (Nat.le_refl _); rwa [show s.n - fi b = N by omega, List.take_of_length_le (by omega)] at h9))
                      have HRD := Lib.hid (show rD b L (k + 1) = rD b L k ++ s.xs.drop (fi b) by
                        subst hkz
                        rw [rD_one HGS.out, rD_zero, List.nil_append, ek, Nat.sub_zero, List.take_of_length_le (by omega)])
                      have HAS := Lib.hid (show no + N = off b (k + 1) - fi b by have := HNO.out; subst hkz; have h0 : off b 0 = 0 := rfl; omega)
                      have hsB : s.n ≤ 6144 := by omega
                      have hfs : fi b ≤ s.n := by omega
                      clear hsn hszz hmo hst hxl hjl hff ek hN e1 hvx hkz
                      go_wp2_with (at_builtin; refine list_of rfl fun K hK => wp_app (base := w.heap.size) (.tmp 107) (.tmp 108) 53 rfl el53 rfl rfl HO5.out (Rdv.below HRN.out HB5.out) (oneCell_ints .u8 _) (by omega) (by unfold maxLen; omega) HB5.out.size ?_; intro A8 c8 w8 hO8 hg8; have HL8 := Lib.hid (HL5.out.grown hg8 (blk_ne_row HL5.out HO5.out (by decide))); have HB8 := Lib.hid (HB5.out.grown hg8 HB5.out.size (fun k hk => Ownv.ob' HO5.out hk)); have HO8 := Lib.hid (Own.of_eq (k := .u8) (xs := rD b L k ++ s.xs.drop (fi b)) hO8 rfl (by rw [List.map_append])); clear hO8 hg8; refine hK _ _ ?_; clear hK K)
                      go_roundw
                      case rel => exact ⟨k + 1, A8, no + N, c8, by omega, by go_num, rfl, HAS.out, Own.of_eq HO8.out rfl (by rw [HRD.out]), HL8.out, HB8.out, fun h => absurd hb6 h⟩
                      case measure => simp [intOf]; omega
                    · have e1 := bC_two hb6
                      have ek : ck b = 24 := by unfold ck; rw [if_neg hb6]
                      obtain ⟨N, hN⟩ : ∃ N, N + 24 = s.n := ⟨s.n - 24, by have := hszz.1; omega⟩
                      have hN6 : N ≤ 6144 := by omega
                      have hdc : decide ((1 : Int) < (bC b : Int)) = true := by simp; omega
                      have hNI : (s.n : Int) - 24 = (N : Int) := by omega
                      have hsl : ∀ W, (Instr.sliceAt 53 (.slice s.A s.n s.c) none (some (.int .i64 (N : Int))) none).run Try.prog W = .ok (.slice s.A N s.c) W := fun W => Rdv.slh hR0 el53 .i64 (by omega) W
                      have hsl2 : ∀ W, (Instr.sliceAt 53 (.slice s.A s.n s.c) (some (.int .i64 (N : Int))) none none).run Try.prog W = .ok (.slice (cut s.A s.c N) 24 (s.c - N)) W := fun W => by
                        have := Rdv.sll hR0 el53 .i64 (l := N) (by omega) W
                        rwa [show s.n - N = 24 by omega] at this
                      have HRN := Lib.hid (show Rd .u8 w s.A N s.c (s.xs.take N) from Rd.upto hR0 (by omega))
                      have HR24 := Lib.hid (show Rd .u8 w (cut s.A s.c N) 24 (s.c - N) (s.xs.drop N) by
                        have := Rd.cut_ hR0 (l := N) (m := s.n) (by omega) (Nat.le_refl _)
                        rwa [show s.n - N = 24 by omega, List.take_of_length_le (by omega)] at this)
                      have HBN := Lib.hid (bit_take N HBI.out)
                      have HCK := Lib.hid (fun W (hb : Below w.heap.size w W) => rchk_any s.A N s.c (s.xs.take N) W (Rdv.below HRN.out hb) HBN.out (by omega))
                      have hch : chkErr 2 s.xs = 0 ↔ crcSum 2 (s.xs.take N) = s.xs.drop N := by
                        unfold chkErr
                        rw [show sLen 2 = 24 from rfl, if_neg (by decide), if_pos hvx, if_neg (by omega), hxl, show s.n - 24 = N by omega]
                        split
                        · rename_i h; exact ⟨fun _ => h, fun _ => rfl⟩
                        · rename_i h; exact ⟨fun h9 => absurd h9 (by decide), fun h9 => absurd h9 h⟩
                      have hse := strEq (byt_bit (bit_sum (k := 2) (by decide) HBN.out)) (byt_bit (bit_drop N HBI.out))
                      have hsB : s.n ≤ 6144 := by omega
                      have HNS := Lib.hid (show s.n - ck b = N by omega)
                      have HAS := Lib.hid (show off b (k + 1) = off b k + N by omega)
                      have HRS := Lib.hid (show k ≠ 0 → rD b L (k + 1) = rD b L k ++ s.xs.take N from fun h => by rw [rD_succ HGS.out (by rw [hjl]; exact hff h), HNS.out])
                      have HR1 := Lib.hid (show k = 0 → rD b L (k + 1) = rD b L k ++ (s.xs.take N).drop (fi b) from fun h => by subst h; rw [rD_one HGS.out, rD_zero, List.nil_append, HNS.out])
                      have HFF := Lib.hid hff
                      have HFN := Lib.hid (show k = 0 → fi b ≤ N from fun h => by have := hszz.1; rw [if_pos h] at this; omega)
                      clear hsn hszz hmo hst hxl hjl hff ek hN e1 hvx
                      by_cases hce : crcSum 2 (s.xs.take N) = s.xs.drop N
                      · have HCH := Lib.hid (hch.2 hce)
                        rw [decide_eq_true hce] at hse
                        have HC1 := Lib.hid (fun (W : World) (A' : Option Addr) (c' : Nat) (h : Rd .u8 W A' 24 c' (crcSum 2 (s.xs.take N))) => conv_rd h)
                        have HC2 := Lib.hid (fun (W : World) (hb : Below w.heap.size w W) => conv_rd (Rdv.below HR24.out hb))
                        clear hch hce
                        generalize strOfNums (crcSum 2 (s.xs.take N)) = S1 at *
                        generalize strOfNums (s.xs.drop N) = S2 at *
                        have mkS : ∀ W', Below w.heap.size w W' → (fun W' => W'.cell? (adr A k) = some (.slice s.A s.n s.c) ∧ (convert 53 9 (.slice (cut s.A s.c N) 24 (s.c - N))).run Try.prog W' = .ok (.string S2) W') W' := fun W' hb => by
                          obtain ⟨s', h', hc', -⟩ := (HL0.out.below hb).get hlt
                          rw [HGS.out] at h'; cases h'
                          exact ⟨hc', HC2.out _ hb⟩
                        go_wp2
                        refine wp_nopanic ?_
                        have hS0 : (fun W' => W'.cell? (adr A k) = some (.slice s.A s.n s.c) ∧ (convert 53 9 (.slice (cut s.A s.c N) 24 (s.c - N))).run Try.prog W' = .ok (.string S2) W') wr.drew := mkS _ HB5.out.drew
                        refine P_start (fun W' => W'.cell? (adr A k) = some (.slice s.A s.n s.c) ∧ (convert 53 9 (.slice (cut s.A s.c N) 24 (s.c - N))).run Try.prog W' = .ok (.string S2) W') 11 12 #[false, false, false, false, false, false, false, false, false, false, false, false] (by kernel_rfl) (by kernel_rfl) (by kernel_rfl) ?_
                        refine P_takeW 0 89 (.slice s.A N s.c) #[true, false, false, false, false, false, false, false, false, false, false, false] rfl rfl (by kernel_rfl) (by kernel_rfl) (by kernel_rfl) (by kernel_rfl) (by decide) (fun _ _ _ h => h) (Or.inl ⟨by rfl, fun W hS => by go_simp⟩) hS0 ?_
                        simp only [List.setIfInBounds_toArray, List.set_cons_zero, List.set_cons_succ]
                        refine P_takeW 3 92 (.slice A (bC b) c) #[true, false, false, true, false, false, false, false, false, false, false, false] rfl rfl (by kernel_rfl) (by kernel_rfl) (by kernel_rfl) (by kernel_rfl) (by decide) (fun _ _ _ h => h) (Or.inl ⟨by rfl, fun W hS => by go_simp⟩) hS0 ?_
                        simp only [List.setIfInBounds_toArray, List.set_cons_zero, List.set_cons_succ]
                        refine P_takeW 4 93 (.int .i64 (k : Int)) #[true, false, false, true, true, false, false, false, false, false, false, false] rfl rfl (by kernel_rfl) (by kernel_rfl) (by kernel_rfl) (by kernel_rfl) (by decide) (fun _ _ _ h => h) (Or.inl ⟨by rfl, fun W hS => by go_simp⟩) hS0 ?_
                        simp only [List.setIfInBounds_toArray, List.set_cons_zero, List.set_cons_succ]
                        refine P_takeW 5 94 (.pointer (some (adr A k))) #[true, false, false, true, true, true, false, false, false, false, false, false] rfl rfl (by kernel_rfl) (by kernel_rfl) (by kernel_rfl) (by kernel_rfl) (by decide) (fun _ _ _ h => h) (Or.inl ⟨by rfl, fun W hS => by go_simp⟩) hS0 ?_
                        simp only [List.setIfInBounds_toArray, List.set_cons_zero, List.set_cons_succ]
                        refine P_takeW 7 96 (.slice s.A N s.c) #[true, false, false, true, true, true, false, true, false, false, false, false] rfl rfl (by kernel_rfl) (by kernel_rfl) (by kernel_rfl) (by kernel_rfl) (by decide) (fun _ _ _ h => h) (Or.inl ⟨by rfl, fun W hS => by go_simp⟩) hS0 ?_
                        simp only [List.setIfInBounds_toArray, List.set_cons_zero, List.set_cons_succ]
                        refine P_takeW 8 97 (.int .i64 (N : Int)) #[true, false, false, true, true, true, false, true, true, false, false, false] rfl rfl (by kernel_rfl) (by kernel_rfl) (by kernel_rfl) (by kernel_rfl) (by decide) (fun _ _ _ h => h) (Or.inl ⟨by rfl, fun W hS => by go_simp⟩) hS0 ?_
                        simp only [List.setIfInBounds_toArray, List.set_cons_zero, List.set_cons_succ]
                        refine P_takeT 6 95 (.slice s.A s.n s.c) #[true, false, false, true, true, true, true, true, true, false, false, false] [10, 9] rfl rfl (by kernel_rfl) (by kernel_rfl) (by kernel_rfl) (by kernel_rfl) (by kernel_rfl) (by kernel_rfl) (by kernel_rfl) (by decide) (fun _ _ _ h => h) (Or.inl ⟨by rfl, fun W hS => by obtain ⟨s0, s1⟩ := hS; go_simp⟩) hS0 ?_
                        simp only [List.setIfInBounds_toArray, List.set_cons_zero, List.set_cons_succ]
                        refine P_takeW 9 98 (.slice (cut s.A s.c N) 24 (s.c - N)) #[true, false, false, true, true, true, true, true, true, true, false, false] rfl rfl (by kernel_rfl) (by kernel_rfl) (by kernel_rfl) (by kernel_rfl) (by decide) (fun _ _ _ h => h) (Or.inl ⟨by rfl, fun W hS => by go_simp⟩) hS0 ?_
                        simp only [List.setIfInBounds_toArray, List.set_cons_zero, List.set_cons_succ]
                        refine P_take 10 99 (.string S2) #[true, false, false, true, true, true, true, true, true, true, true, false] rfl rfl (by kernel_rfl) (by kernel_rfl) (by kernel_rfl) (by kernel_rfl) (by kernel_rfl) (by kernel_rfl) (by decide) (fun _ _ _ h => h) (Or.inl ⟨by rfl, fun W hS => by obtain ⟨s0, s1⟩ := hS; go_simp⟩) hS0 ?_
                        simp only [List.setIfInBounds_toArray, List.set_cons_zero, List.set_cons_succ]
                        refine P_oneS 1 #[true, true, false, true, true, true, true, true, true, true, true, false] rfl (by kernel_rfl) (by kernel_rfl) rfl (fun K hK => ?_)
                        go_simp
                        refine (HCK.out _ HB5.out.drew).mono ?_
                        rintro e w6 ⟨A6, c6x, rfl, hO6, hB6⟩
                        have HR6 := Lib.hid (Own.rd hO6)
                        have HL6 := Lib.hid ((Blk.drew HL5.out).below hB6)
                        have HO6 := Lib.hid (Ownv.below (Ownv.drew HO5.out) hB6)
                        have HB6 := Lib.hid (HB5.out.drew.trans (hB6.mono HB5.out.drew.size))
                        have hS1 := mkS w6 HB6.out
                        refine hK _ _ hS1 ?_
                        clear hK K hB6 hO6
                        have hcv := HC1.out _ _ _ HR6.out
                        refine P_oneS 2 #[true, true, true, true, true, true, true, true, true, true, true, false] rfl (by kernel_rfl) (by kernel_rfl) rfl (fun K hK => ?_)
                        go_simp
                        refine hK _ _ hS1 ?_
                        clear hK K
                        refine P_one 11 #[true, true, true, true, true, true, true, true, true, true, true, true] rfl (by kernel_rfl) (by kernel_rfl) rfl (by kernel_rfl) (fun K hK => ?_)
                        go_simp
                        refine hK _ _ ?_
                        clear hK K
                        refine P_done (by kernel_rfl) ?_ _
                        refine noPanic_normal ?_
                        clear hS0 hS1 mkS
                        obtain ⟨⟨c0, c1, c2, c3, c4, c5, c6⟩, -⟩ := Blk.seven HL6.out
                        by_cases hkz : k = 0
                        · have hk0 : ((k : Int) == 0) = true := beq_t (by omega)
                          have hfn := HFN.out hkz
                          obtain ⟨M, hM⟩ : ∃ M, M + fi b = N := ⟨N - fi b, by omega⟩
                          have hsl3 : ∀ W, (Instr.sliceAt 53 (.slice s.A N s.c) (some (.int .i64 (fi b : Int))) none none).run Try.prog W = .ok (.slice (cut s.A s.c (fi b)) M (s.c - fi b)) W := fun W => by
                            have := Rdv.sll HRN.out el53 .i64 (l := fi b) (by omega) W
                            rwa [show N - fi b = M by omega] at this
                          have HRM := Lib.hid (show Rd .u8 w (cut s.A s.c (fi b)) M (s.c - fi b) ((s.xs.take N).drop (fi b)) by
                            have := Rd.cut_ HRN.out (l := fi b) (m := N) (by omega) (Nat.le_refl _)
                            rwa [show N - fi b = M by omega, List.take_of_length_le (by have := Rd.len HRN.out; omega)] at this)
                          have HRD := Lib.hid (HR1.out hkz)
                          have HAT := Lib.hid (show no + M = off b (k + 1) - fi b by have := HNO.out; have := HAS.out; subst hkz; have h0 : off b 0 = 0 := rfl; omega)
                          have hM6 : M ≤ 6144 := by omega
                          clear hM hkz
                          go_wp2_with (at_builtin; refine list_of rfl fun K hK => wp_app (base := w.heap.size) (.tmp 107) (.tmp 108) 53 rfl el53 rfl rfl HO6.out (Rdv.below HRM.out HB6.out) (oneCell_ints .u8 _) (by omega) (by unfold maxLen; omega) HB6.out.size ?_; intro A8 c8 w8 hO8 hg8; have HL8 := Lib.hid (HL6.out.grown hg8 (blk_ne_row HL6.out HO6.out (by decide))); have HB8 := Lib.hid (HB6.out.grown hg8 HB6.out.size (fun k hk => Ownv.ob' HO6.out hk)); have HO8 := Lib.hid (Own.of_eq (k := .u8) (xs := rD b L k ++ (s.xs.take N).drop (fi b)) hO8 rfl (by rw [List.map_append])); clear hO8 hg8; refine hK _ _ ?_; clear hK K)
                          go_roundw
                          case rel => exact ⟨k + 1, A8, no + M, c8, by omega, by go_num, rfl, HAT.out, Own.of_eq HO8.out rfl (by rw [HRD.out]), HL8.out, HB8.out, fun _ q t hq hqt => by
                            rcases Nat.lt_succ_iff_lt_or_eq.1 hq with hq | rfl
                            · exact HC.out hb6 q t hq hqt
                            · rw [HGS.out] at hqt; cases hqt; exact HCH.out⟩
                          case measure => simp [intOf]; omega
                        · have hk0 : ((k : Int) == 0) = false := beq_f (by omega)
                          have HRD := Lib.hid (HRS.out hkz)
                          have HAT := Lib.hid (show no + N = off b (k + 1) - fi b by have := HNO.out; have := HAS.out; have := HFF.out hkz; omega)
                          clear hkz
                          go_wp2_with (at_builtin; refine list_of rfl fun K hK => wp_app (base := w.heap.size) (.tmp 107) (.tmp 108) 53 rfl el53 rfl rfl HO6.out (Rdv.below HRN.out HB6.out) (oneCell_ints .u8 _) (by omega) (by unfold maxLen; omega) HB6.out.size ?_; intro A8 c8 w8 hO8 hg8; have HL8 := Lib.hid (HL6.out.grown hg8 (blk_ne_row HL6.out HO6.out (by decide))); have HB8 := Lib.hid (HB6.out.grown hg8 HB6.out.size (fun k hk => Ownv.ob' HO6.out hk)); have HO8 := Lib.hid (Own.of_eq (k := .u8) (xs := rD b L k ++ s.xs.take N) hO8 rfl (by rw [List.map_append])); clear hO8 hg8; refine hK _ _ ?_; clear hK K)
                          go_roundw
                          case rel => exact ⟨k + 1, A8, no + N, c8, by omega, by go_num, rfl, HAT.out, Own.of_eq HO8.out rfl (by rw [HRD.out]), HL8.out, HB8.out, fun _ q t hq hqt => by
                            rcases Nat.lt_succ_iff_lt_or_eq.1 hq with hq | rfl
                            · exact HC.out hb6 q t hq hqt
                            · rw [HGS.out] at hqt; cases hqt; exact HCH.out⟩
                          case measure => simp [intOf]; omega
                      · have HJ := Lib.hid (jErr_c (b := b) HJV.out HRL.out.len HJS.out HJF.out hb6 (jC_f HGS.out (fun h9 => hce (hch.1 h9))))
                        rw [decide_eq_false hce] at hse
                        have HC1 := Lib.hid (fun (W : World) (A' : Option Addr) (c' : Nat) (h : Rd .u8 W A' 24 c' (crcSum 2 (s.xs.take N))) => conv_rd h)
                        have HC2 := Lib.hid (fun (W : World) (hb : Below w.heap.size w W) => conv_rd (Rdv.below HR24.out hb))
                        clear hch hce
                        generalize strOfNums (crcSum 2 (s.xs.take N)) = S1 at *
                        generalize strOfNums (s.xs.drop N) = S2 at *
                        have mkS : ∀ W', Below w.heap.size w W' → (fun W' => W'.cell? (adr A k) = some (.slice s.A s.n s.c) ∧ (convert 53 9 (.slice (cut s.A s.c N) 24 (s.c - N))).run Try.prog W' = .ok (.string S2) W') W' := fun W' hb => by
                          obtain ⟨s', h', hc', -⟩ := (HL0.out.below hb).get hlt
                          rw [HGS.out] at h'; cases h'
                          exact ⟨hc', HC2.out _ hb⟩
                        go_wp2
                        refine wp_nopanic ?_
                        have hS0 : (fun W' => W'.cell? (adr A k) = some (.slice s.A s.n s.c) ∧ (convert 53 9 (.slice (cut s.A s.c N) 24 (s.c - N))).run Try.prog W' = .ok (.string S2) W') wr.drew := mkS _ HB5.out.drew
                        refine P_start (fun W' => W'.cell? (adr A k) = some (.slice s.A s.n s.c) ∧ (convert 53 9 (.slice (cut s.A s.c N) 24 (s.c - N))).run Try.prog W' = .ok (.string S2) W') 11 12 #[false, false, false, false, false, false, false, false, false, false, false, false] (by kernel_rfl) (by kernel_rfl) (by kernel_rfl) ?_
                        refine P_takeW 0 89 (.slice s.A N s.c) #[true, false, false, false, false, false, false, false, false, false, false, false] rfl rfl (by kernel_rfl) (by kernel_rfl) (by kernel_rfl) (by kernel_rfl) (by decide) (fun _ _ _ h => h) (Or.inl ⟨by rfl, fun W hS => by go_simp⟩) hS0 ?_
                        simp only [List.setIfInBounds_toArray, List.set_cons_zero, List.set_cons_succ]
                        refine P_takeW 3 92 (.slice A (bC b) c) #[true, false, false, true, false, false, false, false, false, false, false, false] rfl rfl (by kernel_rfl) (by kernel_rfl) (by kernel_rfl) (by kernel_rfl) (by decide) (fun _ _ _ h => h) (Or.inl ⟨by rfl, fun W hS => by go_simp⟩) hS0 ?_
                        simp only [List.setIfInBounds_toArray, List.set_cons_zero, List.set_cons_succ]
                        refine P_takeW 4 93 (.int .i64 (k : Int)) #[true, false, false, true, true, false, false, false, false, false, false, false] rfl rfl (by kernel_rfl) (by kernel_rfl) (by kernel_rfl) (by kernel_rfl) (by decide) (fun _ _ _ h => h) (Or.inl ⟨by rfl, fun W hS => by go_simp⟩) hS0 ?_
                        simp only [List.setIfInBounds_toArray, List.set_cons_zero, List.set_cons_succ]
                        refine P_takeW 5 94 (.pointer (some (adr A k))) #[true, false, false, true, true, true, false, false, false, false, false, false] rfl rfl (by kernel_rfl) (by kernel_rfl) (by kernel_rfl) (by kernel_rfl) (by decide) (fun _ _ _ h => h) (Or.inl ⟨by rfl, fun W hS => by go_simp⟩) hS0 ?_
                        simp only [List.setIfInBounds_toArray, List.set_cons_zero, List.set_cons_succ]
                        refine P_takeW 7 96 (.slice s.A N s.c) #[true, false, false, true, true, true, false, true, false, false, false, false] rfl rfl (by kernel_rfl) (by kernel_rfl) (by kernel_rfl) (by kernel_rfl) (by decide) (fun _ _ _ h => h) (Or.inl ⟨by rfl, fun W hS => by go_simp⟩) hS0 ?_
                        simp only [List.setIfInBounds_toArray, List.set_cons_zero, List.set_cons_succ]
                        refine P_takeW 8 97 (.int .i64 (N : Int)) #[true, false, false, true, true, true, false, true, true, false, false, false] rfl rfl (by kernel_rfl) (by kernel_rfl) (by kernel_rfl) (by kernel_rfl) (by decide) (fun _ _ _ h => h) (Or.inl ⟨by rfl, fun W hS => by go_simp⟩) hS0 ?_
                        simp only [List.setIfInBounds_toArray, List.set_cons_zero, List.set_cons_succ]
                        refine P_takeT 6 95 (.slice s.A s.n s.c) #[true, false, false, true, true, true, true, true, true, false, false, false] [10, 9] rfl rfl (by kernel_rfl) (by kernel_rfl) (by kernel_rfl) (by kernel_rfl) (by kernel_rfl) (by kernel_rfl) (by kernel_rfl) (by decide) (fun _ _ _ h => h) (Or.inl ⟨by rfl, fun W hS => by obtain ⟨s0, s1⟩ := hS; go_simp⟩) hS0 ?_
                        simp only [List.setIfInBounds_toArray, List.set_cons_zero, List.set_cons_succ]
                        refine P_takeW 9 98 (.slice (cut s.A s.c N) 24 (s.c - N)) #[true, false, false, true, true, true, true, true, true, true, false, false] rfl rfl (by kernel_rfl) (by kernel_rfl) (by kernel_rfl) (by kernel_rfl) (by decide) (fun _ _ _ h => h) (Or.inl ⟨by rfl, fun W hS => by go_simp⟩) hS0 ?_
                        simp only [List.setIfInBounds_toArray, List.set_cons_zero, List.set_cons_succ]
                        refine P_take 10 99 (.string S2) #[true, false, false, true, true, true, true, true, true, true, true, false] rfl rfl (by kernel_rfl) (by kernel_rfl) (by kernel_rfl) (by kernel_rfl) (by kernel_rfl) (by kernel_rfl) (by decide) (fun _ _ _ h => h) (Or.inl ⟨by rfl, fun W hS => by obtain ⟨s0, s1⟩ := hS; go_simp⟩) hS0 ?_
                        simp only [List.setIfInBounds_toArray, List.set_cons_zero, List.set_cons_succ]
                        refine P_oneS 1 #[true, true, false, true, true, true, true, true, true, true, true, false] rfl (by kernel_rfl) (by kernel_rfl) rfl (fun K hK => ?_)
                        go_simp
                        refine (HCK.out _ HB5.out.drew).mono ?_
                        rintro e w6 ⟨A6, c6x, rfl, hO6, hB6⟩
                        have HR6 := Lib.hid (Own.rd hO6)
                        have HL6 := Lib.hid ((Blk.drew HL5.out).below hB6)
                        have HO6 := Lib.hid (Ownv.below (Ownv.drew HO5.out) hB6)
                        have HB6 := Lib.hid (HB5.out.drew.trans (hB6.mono HB5.out.drew.size))
                        have hS1 := mkS w6 HB6.out
                        refine hK _ _ hS1 ?_
                        clear hK K hB6 hO6
                        have hcv := HC1.out _ _ _ HR6.out
                        refine P_oneS 2 #[true, true, true, true, true, true, true, true, true, true, true, false] rfl (by kernel_rfl) (by kernel_rfl) rfl (fun K hK => ?_)
                        go_simp
                        refine hK _ _ hS1 ?_
                        clear hK K
                        refine P_one 11 #[true, true, true, true, true, true, true, true, true, true, true, true] rfl (by kernel_rfl) (by kernel_rfl) rfl (by kernel_rfl) (fun K hK => ?_)
                        go_simp
                        refine hK _ _ ?_
                        clear hK K
                        refine P_done (by kernel_rfl) ?_ _
                        refine noPanic_normal ?_
                        clear hS0 hS1 mkS
                        go_wp2
                        go_ret2
                        exact jbad_post ⟨rfl, HB6.out⟩ HJ.out (by decide)
                  · obtain rfl : k = bC b := by omega
                    have HJ := Lib.hid (jErr_0 (b := b) HJV.out HRL.out.len HJS.out HJF.out (fun h => jC_t (fun q s hq hqs => HC.out h q s (by have := HRL.out.len; omega) hqs)))
                    go_wp2
                    go_ret2
                    refine ⟨Ao, no, co, by rw [HJ.out]; rfl, ?_, HB5.out⟩
                    unfold jRes
                    rw [if_pos HJ.out, HRL.out.len]
                    exact Own.rd HO5.out
      · have HJ := Lib.hid (jErr_l (b := b) HJV.out (by rw [HRL.out.len]; exact hnC))
        have hd : ((bC b : Int) != (n : Int)) = true := bne_t (by omega)
        go_wp2_with (go_at_call 39; refine (HEA.out _).mono ?_; rintro e w3 ⟨As, cs, rfl, hOs, hB3⟩; have HB3 := Lib.hid (HB.out.trans (hB3.mono HB.out.size)); clear hOs hB3)
        go_ret2
        exact jbad_post ⟨rfl, HB3.out⟩ HJ.out (by decide)
end Go.Proofs.Ytcbbkflnenkpgaa

namespace Go.Proofs.Ytcbbkflnenkpgaa
open Go.RowKit CM
set_option linter.unusedVariables false
/-- the error of a Join -/
def jE (b : Int) (L : List Sv) : Int := if b < 1 ∨ 79560 < b then 2 else jErr b.toNat L
/-- the bits of a Join -/
def jR (b : Int) (L : List Sv) : List Int := if b < 1 ∨ 79560 < b then [] else jRes b.toNat L
def JAll (b : Int) (L : List Sv) (w : World) (e : Ending) (w' : World) : Prop := ∃ A' n' c', e = .returned (.tuple #[.slice A' n' c', .int .i64 (jE b L)]) ∧ Rd .u8 w' A' n' c' (jR b L) ∧ Below w.heap.size w w'
theorem jbad_all {b : Int} {L : List Sv} {w w' : World} {e : Ending} (h : JBad 2 w e w') (hb : b < 1 ∨ 79560 < b) : JAll b L w e w' := by
  obtain ⟨rfl, hB⟩ := h
  refine ⟨none, 0, 0, by rw [jE, if_pos hb], ?_, hB⟩
  rw [jR, if_pos hb]
  exact Rd.nilv _ _
theorem jpost_all {b : Int} {L : List Sv} {w w' : World} {e : Ending} (h : JPost b.toNat L w e w') (hb : ¬ (b < 1 ∨ 79560 < b)) : JAll b L w e w' := by
  obtain ⟨A', n', c', rfl, hR, hB⟩ := h
  refine ⟨A', n', c', by rw [jE, if_neg hb], ?_, hB⟩
  rw [jR, if_neg hb]
  exact hR
theorem join_all (b : Int) (A : Option Addr) (n c : Nat) (L : List Sv) (w : World) (hL : RL w A n c L) (hs : ∀ s ∈ L, s.n ≤ 100000) : Calls Try.prog 37 #[.int .i64 b, .slice A n c] w (JAll b L w) := by
  by_cases hb : b < 1 ∨ 79560 < b
  · exact (join_bad b A n c w hb).mono fun e w' he => jbad_all he hb
  · have h := join_any b.toNat A n c L w (by omega) (by omega) hL hs
    rw [show ((b.toNat : Nat) : Int) = b by omega] at h
    exact h.mono fun e w' he => jpost_all he hb
theorem rjoin_all (b : Int) (A : Option Addr) (n c : Nat) (L : List Sv) (w : World) (hL : RL w A n c L) (hs : ∀ s ∈ L, s.n ≤ 100000) (hy : ∀ s ∈ L, Byt s.xs) : Calls Try.prog 38 #[.int .i64 b, .slice A n c] w (JAll b L w) := by
  by_cases hb : b < 1 ∨ 79560 < b
  · exact (rjoin_bad b A n c w hb).mono fun e w' he => jbad_all he hb
  · have h := rjoin_any b.toNat A n c L w (by omega) (by omega) hL hs hy
    rw [show ((b.toNat : Nat) : Int) = b by omega] at h
    exact h.mono fun e w' he => jpost_all he hb
end Go.Proofs.Ytcbbkflnenkpgaa

namespace Go.Proofs.Ytcbbkflnenkpgaa
open Go.RowKit CM
set_option linter.unusedVariables false
theorem segs_le {b k : Nat} {full : List Int} (h1 : 1 ≤ b) : ∀ d ∈ segs b full k, d.length ≤ 6168 := by
  intro d hd
  unfold segs at hd
  obtain ⟨i, _, rfl⟩ := List.mem_map.1 hd
  have h2 := (sz_ge (i := i) h1).2
  unfold segB
  split
  · rw [List.length_take]; omega
  · rw [List.length_append, crcSum_len, List.length_take, show sLen 2 = 24 from rfl]; omega
theorem sD_le {xs : List Int} : (∀ d ∈ sD xs, d.length ≤ 6168) ∧ (sD xs).length ≤ 13 := by
  unfold sD
  split
  · rename_i h
    have h1 : 1 ≤ xs.length ∧ xs.length ≤ 79560 := by
      unfold sE at h
      split at h
      · cases h
      · omega
    exact ⟨segs_le h1.1, by unfold segs; rw [List.length_map, List.length_range]; exact bC_le h1.2⟩
  · exact ⟨by simp, by simp⟩
theorem SpAllS.le {w w' : World} {xs : List Int} {A' : Option Addr} {n' c' : Nat} {L : List Sv} (h : SpAllS w xs w' A' n' c' L) : ∀ s ∈ L, s.n ≤ 6168 := by
  intro s hs
  have h1 := Rd.len (Own.rd (h.b.r s hs).1)
  have h2 := sD_le.1 s.xs (by rw [← h.l]; exact List.mem_map.2 ⟨s, hs, rfl⟩)
  omega
theorem SpAllS.few {w w' : World} {xs : List Int} {A' : Option Addr} {n' c' : Nat} {L : List Sv} (h : SpAllS w xs w' A' n' c' L) : n' ≤ 13 := by
  have h1 := congrArg List.length h.l
  rw [List.length_map] at h1
  have h2 := sD_le (xs := xs).2
  rw [h.n]; omega
theorem own_of_ne {A B : Option Addr} {n c : Nat} (hA : A ≠ none) (h : some (blk B) ≠ (Value.slice A n c).ownBlock) : some (blk B) ≠ some (blk A) := by
  obtain ⟨a, ha⟩ := Option.ne_none_iff_exists'.1 hA
  rw [ha] at h ⊢
  simpa [Value.ownBlock, blk] using h
section
variable {w : World} {base c : Nat} {A : Option Addr} {L : List Sv}
theorem BL.none_ne (h : BL w base A c L) {k : Nat} (hk : k < L.length) : A ≠ none := by
  rintro rfl
  have := Rdv.nil h.o.rd rfl
  have := Rdv.le h.o.rd
  omega
/-- one value of one row is replaced -/
theorem BL.putv (h : BL w base A c L) {k q : Nat} {r : Sv} (hk : L[k]? = some r) (hq : q < r.n) (u : Int) :
    RL (w.setCell (adr r.A q) (.int .u8 u)) A L.length c (L.set k ⟨r.A, r.n, r.c, r.xs.set q u⟩) ∧ w.grownBy (w.setCell (adr r.A q) (.int .u8 u)) (some (blk r.A)) := by
  have hr := h.r r (List.mem_of_getElem? hk)
  have h2 := Own.set_ hr.1 hq u
  obtain ⟨hkl, hke⟩ := List.getElem?_eq_some_iff.1 hk
  have hmap : (L.set k ⟨r.A, r.n, r.c, r.xs.set q u⟩).map Sv.v = L.map Sv.v := by
    apply List.ext_getElem?
    intro j
    rw [List.getElem?_map, List.getElem?_map, List.getElem?_set]
    split
    · rename_i he; subst he; rw [hk]; rfl
    · rfl
  refine ⟨⟨by rw [hmap]; exact (h.o.grown h2.2 (fun hA => own_of_ne hr.2 (rows_ne h.o hr.1 (by decide) hA))).rd, fun s hs => ?_⟩, h2.2⟩
  obtain ⟨j, hj, he⟩ := List.getElem_of_mem hs
  rw [List.getElem_set] at he
  have hj' : j < L.length := by simpa using hj
  split at he
  · subst he; exact Own.rd h2.1
  · rename_i hne
    subst he
    refine Own.rd (Ownv.grown (h.r _ (List.getElem_mem hj')).1 h2.2 (fun _ he => ?_))
    have he := Option.some.inj he
    have hp := List.pairwise_iff_getElem.1 h.p
    rcases Nat.lt_or_gt_of_ne hne with h3 | h3
    · exact hp k j hkl hj' h3 (by rw [hke]; exact he.symm)
    · exact hp j k hj' hkl h3 (by rw [hke]; exact he)
/-- one row is replaced -/
theorem BL.putr (h : BL w base A c L) {k base' : Nat} {r : Sv} (hk : k < L.length) (hr : Own .u8 5 w base' r.A r.n r.c r.xs) :
    RL (w.setCell (adr A k) (.slice r.A r.n r.c)) A L.length c (L.set k r) ∧ w.grownBy (w.setCell (adr A k) (.slice r.A r.n r.c)) (some (blk A)) := by
  have h2 := Ownv.set_ h.o hk (Sv.v r)
  have hA := h.none_ne hk
  refine ⟨⟨by rw [List.map_set]; exact h2.1.rd, fun s hs => ?_⟩, h2.2⟩
  rcases List.mem_or_eq_of_mem_set hs with hs | rfl
  · exact Own.rd (Ownv.grown (h.r s hs).1 h2.2 (fun hB => own_of_ne hA (rows_ne (h.r s hs).1 h.o (by decide) hB)))
  · exact Own.rd (Ownv.grown hr h2.2 (fun hB => own_of_ne hA (rows_ne hr h.o (by decide) hB)))
end
end Go.Proofs.Ytcbbkflnenkpgaa

namespace Go.Proofs.Ytcbbkflnenkpgaa
open Go.RowKit CM
set_option linter.unusedVariables false
def PbI5 (w : World) (cs : List Value) (n : Nat) (A : Option Addr) (x i : Value) (wr : World) : Prop := ∃ (j : Nat) (v : Int) (xs : List Int), j ≤ n ∧ i = .int .i64 j ∧ x = .int .u32 v ∧ Own .u8 5 wr w.heap.size A n n xs ∧ Byt xs ∧ Below w.heap.size w wr ∧ Blk wr w.heap.size 76 cs
def PbP5 (w : World) (e : Ending) (w' : World) : Prop := ∃ (n : Nat) (A : Option Addr) (xs : List Int), n ≤ 13000 ∧ e = .returned (.slice A n n) ∧ Own .u8 5 w' w.heap.size A n n xs ∧ Byt xs ∧ Below w.heap.size w w'
set_option maxRecDepth 100000 in
set_option maxHeartbeats 1000000 in
theorem bits15_any (l s a y : Int) (w : World) (hy : 0 ≤ y ∧ y < 256) : Calls Try.prog 42 #[.agg #[.int .i64 l, .int .u32 s, .int .i64 a, .int .u8 y]] w (PbP5 w) := by
  have HY := Lib.hid hy
  clear hy
  have hK0 := Blk.new w [.int .i64 l, .int .u32 s, .int .i64 a, .int .u8 y] 76 rfl
  have HB0 := Lib.hid (show Below w.heap.size w (w.alloc (.cells [.int .i64 l, .int .u32 s, .int .i64 a, .int .u8 y].toArray 76)) from (Below.refl _ _).alloc (Nat.le_refl _) _)
  have HK0 := Lib.hid hK0
  clear hK0
  obtain ⟨n, hn, he⟩ : ∃ n : Nat, n ≤ 13000 ∧ ((l ≤ 0 ∧ n = 0) ∨ (0 < l ∧ l < 13000 ∧ l = n) ∨ (13000 ≤ l ∧ n = 13000)) := by
    by_cases h1 : l ≤ 0
    · exact ⟨0, by omega, .inl ⟨h1, rfl⟩⟩
    · by_cases h2 : l < 13000
      · exact ⟨l.toNat, by omega, .inr (.inl ⟨by omega, h2, by omega⟩)⟩
      · exact ⟨13000, by omega, .inr (.inr ⟨by omega, rfl⟩)⟩
  rcases he with ⟨h1, rfl⟩ | ⟨h0, h1, hl⟩ | ⟨h1, rfl⟩
  case inl =>
    go_enter Try.func42, Try.ntmps42
    go_wp2_with (at_make; refine list_of rfl fun K hK => wp_mk (n := 0) (kl := .i64) (kr := .i64) _ _ 53 rfl el53 rfl rfl (by omega) (by unfold maxLen; omega) ?_; intro A w2 hO hB2 hA; have HO := Lib.hid hO; have HB2 := Lib.hid (HB0.out.trans (hB2.mono HB0.out.size)); have HK2 := Lib.hid (HK0.out.below hB2); have k1 := HK2.out.cell (j := 1) rfl; clear hO hB2; refine hK _ _ ?_; clear hK K)
    have hN3 : 0 ≤ 13000 := by omega
    go_loopw [4, 5] (fun x i wr => PbI5 w [.int .i64 l, .int .u32 s, .int .i64 a, .int .u8 y] 0 A x i wr) (fun _ i _ => 0 - (intOf i).toNat)
    case atStart => exact ⟨0, _, List.replicate 0 0, by omega, rfl, rfl, Own.of_eq (Ownv.mono HO.out (by simp)) rfl (by rw [List.map_replicate]), byt_zeros _, HB2.out, HK2.out⟩
    case round =>
      obtain ⟨j, v, xs, hj, rfl, rfl, hO3, hby, hB3, hK3⟩ := hrel
      have HO3 := Lib.hid hO3
      have HBY := Lib.hid hby
      have HB3 := Lib.hid hB3
      have HK3 := Lib.hid hK3
      clear hO3 hby hB3 hK3
      by_cases hlt : j < 0
      ·
        exact absurd hlt (by omega)
      · have a2 := HK3.out.cell (j := 2) rfl
        have a3 := HK3.out.cell (j := 3) rfl
        by_cases ha : 0 ≤ a ∧ a < 0
        · exact absurd ha (by omega)
        · rcases (by omega : a < 0 ∨ (0 : Int) ≤ a) with ha2 | ha2
          all_goals
            clear ha
            go_wp2
            go_ret
            exact ⟨0, A, xs, hN3, rfl, HO3.out, HBY.out, HB3.out⟩
  case inr.inl =>
    have HL := Lib.hid hl
    have HN := Lib.hid hn
    clear hl hn
    go_enter Try.func42, Try.ntmps42
    go_wp2_with (at_make; refine list_of rfl fun K hK => wp_mk (n := n) (kl := .i64) (kr := .i64) _ _ 53 rfl el53 (by rw [← HL.out]; rfl) (by rw [← HL.out]; rfl) (by have := HN.out; omega) (by have := HN.out; unfold maxLen; omega) ?_; intro A w2 hO hB2 hA; have HO := Lib.hid hO; have HB2 := Lib.hid (HB0.out.trans (hB2.mono HB0.out.size)); have HK2 := Lib.hid (HK0.out.below hB2); have k1 := HK2.out.cell (j := 1) rfl; clear hO hB2; refine hK _ _ ?_; clear hK K)
    have hn := HN.out
    clear HN h0 h1 HL
    have hN3 : n ≤ 13000 := by omega
    go_loopw [4, 5] (fun x i wr => PbI5 w [.int .i64 l, .int .u32 s, .int .i64 a, .int .u8 y] n A x i wr) (fun _ i _ => n - (intOf i).toNat)
    case atStart => exact ⟨0, _, List.replicate n 0, by omega, rfl, rfl, Own.of_eq (Ownv.mono HO.out (by simp)) rfl (by rw [List.map_replicate]), byt_zeros _, HB2.out, HK2.out⟩
    case round =>
      obtain ⟨j, v, xs, hj, rfl, rfl, hO3, hby, hB3, hK3⟩ := hrel
      have HO3 := Lib.hid hO3
      have HBY := Lib.hid hby
      have HB3 := Lib.hid hB3
      have HK3 := Lib.hid hK3
      clear hO3 hby hB3 hK3
      by_cases hlt : j < n
      ·
        have hix := fun W => Rdv.ix (Own.rd HO3.out) el53 hlt .i64 W
        have hcell := Rd.cell (Own.rd HO3.out) hlt
        have hfz := Ownv.frozen HO3.out (by omega) j
        have HSET := Lib.hid (fun v => Own.set_ HO3.out hlt v)
        have HNE := Lib.hid (blk_ne_row HK3.out HO3.out (by decide))
        have HCE := Lib.hid (Ownv.blk_ge HO3.out (by omega))
        go_wp2
        go_roundw
        case rel => exact ⟨j + 1, _, _, by omega, by go_num, rfl, (HSET.out _).1, byt_set HBY.out (by omega), HB3.out.grown (HSET.out _).2 HB3.out.size (fun k hk => by injection hk with hk; rw [← hk]; exact HCE.out.1), HK3.out.grown (HSET.out _).2 (fun he => own_ne_blk HK3.out HO3.out (by decide) (own_some HO3.out hlt) (Option.some.inj he).symm)⟩
        case measure => simp [intOf]; omega
      · have a2 := HK3.out.cell (j := 2) rfl
        have a3 := HK3.out.cell (j := 3) rfl
        by_cases ha : 0 ≤ a ∧ a < n
        · obtain ⟨q, rfl⟩ : ∃ q : Nat, a = q := ⟨a.toNat, by omega⟩
          have hq : q < n := by omega
          have hix := fun W => Rdv.ix (Own.rd HO3.out) el53 hq .i64 W
          have hcell := Rd.cell (Own.rd HO3.out) hq
          have hfz := Ownv.frozen HO3.out (by omega) q
          have HSET := Lib.hid (Own.set_ HO3.out hq y)
          have HCE := Lib.hid (Ownv.blk_ge HO3.out (by omega))
          clear ha
          go_wp2
          go_ret
          exact ⟨n, A, _, hN3, rfl, HSET.out.1, byt_set HBY.out HY.out, HB3.out.grown HSET.out.2 HB3.out.size (fun k hk => by injection hk with hk; rw [← hk]; exact HCE.out.1)⟩
        · rcases (by omega : a < 0 ∨ (n : Int) ≤ a) with ha2 | ha2
          all_goals
            clear ha
            go_wp2
            go_ret
            exact ⟨n, A, xs, hN3, rfl, HO3.out, HBY.out, HB3.out⟩
  case inr.inr =>
    go_enter Try.func42, Try.ntmps42
    go_wp2_with (at_make; refine list_of rfl fun K hK => wp_mk (n := 13000) (kl := .i64) (kr := .i64) _ _ 53 rfl el53 rfl rfl (by omega) (by unfold maxLen; omega) ?_; intro A w2 hO hB2 hA; have HO := Lib.hid hO; have HB2 := Lib.hid (HB0.out.trans (hB2.mono HB0.out.size)); have HK2 := Lib.hid (HK0.out.below hB2); have k1 := HK2.out.cell (j := 1) rfl; clear hO hB2; refine hK _ _ ?_; clear hK K)
    obtain ⟨N, hN⟩ : ∃ N : Nat, N = 13000 := ⟨_, rfl⟩
    rw [← hN] at HO ⊢
    have hN3 : N ≤ 13000 := by omega
    clear hN h1
    go_loopw [4, 5] (fun x i wr => PbI5 w [.int .i64 l, .int .u32 s, .int .i64 a, .int .u8 y] N A x i wr) (fun _ i _ => N - (intOf i).toNat)
    case atStart => exact ⟨0, _, List.replicate N 0, by omega, rfl, rfl, Own.of_eq (Ownv.mono HO.out (by simp)) rfl (by rw [List.map_replicate]), byt_zeros _, HB2.out, HK2.out⟩
    case round =>
      obtain ⟨j, v, xs, hj, rfl, rfl, hO3, hby, hB3, hK3⟩ := hrel
      have HO3 := Lib.hid hO3
      have HBY := Lib.hid hby
      have HB3 := Lib.hid hB3
      have HK3 := Lib.hid hK3
      clear hO3 hby hB3 hK3
      by_cases hlt : j < N
      ·
        have hix := fun W => Rdv.ix (Own.rd HO3.out) el53 hlt .i64 W
        have hcell := Rd.cell (Own.rd HO3.out) hlt
        have hfz := Ownv.frozen HO3.out (by omega) j
        have HSET := Lib.hid (fun v => Own.set_ HO3.out hlt v)
        have HNE := Lib.hid (blk_ne_row HK3.out HO3.out (by decide))
        have HCE := Lib.hid (Ownv.blk_ge HO3.out (by omega))
        go_wp2
        go_roundw
        case rel => exact ⟨j + 1, _, _, by omega, by go_num, rfl, (HSET.out _).1, byt_set HBY.out (by omega), HB3.out.grown (HSET.out _).2 HB3.out.size (fun k hk => by injection hk with hk; rw [← hk]; exact HCE.out.1), HK3.out.grown (HSET.out _).2 (fun he => own_ne_blk HK3.out HO3.out (by decide) (own_some HO3.out hlt) (Option.some.inj he).symm)⟩
        case measure => simp [intOf]; omega
      · have a2 := HK3.out.cell (j := 2) rfl
        have a3 := HK3.out.cell (j := 3) rfl
        by_cases ha : 0 ≤ a ∧ a < N
        · obtain ⟨q, rfl⟩ : ∃ q : Nat, a = q := ⟨a.toNat, by omega⟩
          have hq : q < N := by omega
          have hix := fun W => Rdv.ix (Own.rd HO3.out) el53 hq .i64 W
          have hcell := Rd.cell (Own.rd HO3.out) hq
          have hfz := Ownv.frozen HO3.out (by omega) q
          have HSET := Lib.hid (Own.set_ HO3.out hq y)
          have HCE := Lib.hid (Ownv.blk_ge HO3.out (by omega))
          clear ha
          go_wp2
          go_ret
          exact ⟨N, A, _, hN3, rfl, HSET.out.1, byt_set HBY.out HY.out, HB3.out.grown HSET.out.2 HB3.out.size (fun k hk => by injection hk with hk; rw [← hk]; exact HCE.out.1)⟩
        · rcases (by omega : a < 0 ∨ (N : Int) ≤ a) with ha2 | ha2
          all_goals
            clear ha
            go_wp2
            go_ret
            exact ⟨N, A, xs, hN3, rfl, HO3.out, HBY.out, HB3.out⟩
theorem polyN_zero (k : Int) : polyN k = 0 ↔ sLen k = 0 := by rw [polyN_sLen]; split <;> simp_all
theorem err_agree (k : Int) (xs : List Int) : refErr k xs = cErr k xs := by
  unfold refErr cErr
  by_cases h : sLen k = 0
  · rw [if_pos ((polyN_zero k).2 h), if_pos h]
  · rw [if_neg (fun e => h ((polyN_zero k).1 e)), if_neg h]
theorem res_agree (k : Int) {xs : List Int} (h0 : ∀ x ∈ xs, 0 ≤ x) : refRes k xs = cRes k xs := by
  unfold refRes cRes
  by_cases h : sLen k = 0
  · rw [if_pos ((polyN_zero k).2 h), if_pos h]
  · rw [if_neg (fun e => h ((polyN_zero k).1 e)), if_neg h]
    by_cases hv : ValidB xs = true
    · rw [if_pos hv, if_pos hv, sum_agree h (bit_of h0 hv)]
    · rw [if_neg hv, if_neg hv]
theorem rlen_agree (k : Int) : rLen k = (sLen k : Int) := by
  rw [rLen_eq, polyN_sLen]; split <;> simp_all
theorem chkerr_agree (k : Int) {xs : List Int} (h0 : ∀ x ∈ xs, 0 ≤ x) : rChkErr k xs = chkErr k xs := by
  unfold rChkErr chkErr
  by_cases h : sLen k = 0
  · rw [if_pos ((polyN_zero k).2 h), if_pos h]
  · rw [if_neg (fun e => h ((polyN_zero k).1 e)), if_neg h]
    have e1 : polyN k - 1 = sLen k := by rw [polyN_sLen, if_neg h]; omega
    rw [e1]
    by_cases hv : ValidB xs = true
    · rw [if_pos hv, if_pos hv, sum_agree h (bit_of (fun x hx => h0 x (List.mem_of_mem_take hx)) (validB_take _ hv))]
    · rw [if_neg hv, if_neg hv]
theorem chkres_agree (k : Int) {xs : List Int} (h0 : ∀ x ∈ xs, 0 ≤ x) : rChkRes k xs = chkRes k xs := by
  unfold rChkRes chkRes
  rw [chkerr_agree k h0]
  by_cases h : sLen k = 0
  · have e : chkErr k xs ≠ 0 := by rw [chkErr, if_pos h]; decide
    rw [if_neg e, if_neg e]
  · have e1 : polyN k - 1 = sLen k := by rw [polyN_sLen, if_neg h]; omega
    rw [e1]

theorem validB_of_bit {xs : List Int} (h : Bit xs) : ValidB xs = true := validB_t fun q hq => by rcases h _ (gi_mem xs q hq) with h1 | h1 <;> omega
/-- the error of Blocks -/
def bE (xs : List Int) : Int := if xs.length < 1 ∨ 79536 < xs.length then 2 else if ValidB xs = true then 0 else 3
/-- the blocks -/
def bD (xs : List Int) : List (List Int) := if bE xs = 0 then sD (xs ++ crcSum 1 xs) else []
structure BkS (w : World) (xs : List Int) (w' : World) (A' : Option Addr) (n' c' : Nat) (L : List Sv) : Prop where
  b : BL w' w.heap.size A' c' L
  n : n' = L.length
  l : L.map (·.xs) = bD xs
  y : ∀ s ∈ L, Bit s.xs
  k : Below w.heap.size w w'
def BkAll (xs : List Int) (w : World) (e : Ending) (w' : World) : Prop := ∃ A' n' c' L, e = .returned (.tuple #[.slice A' n' c', .int .i64 (bE xs)]) ∧ BkS w xs w' A' n' c' L
theorem BkAll.bad {xs : List Int} {k : Int} {w w' : World} (hB : Below w.heap.size w w') (hk : bE xs = k) (h0 : k ≠ 0) : BkAll xs w (.returned (.tuple #[.slice none 0 0, .int .i64 k])) w' :=
  ⟨none, 0, 0, [], by rw [hk], BL.nil _ _, rfl, by unfold bD; rw [if_neg (by rw [hk]; exact h0)]; rfl, by simp, hB⟩
set_option maxRecDepth 100000 in
set_option maxHeartbeats 1000000 in
theorem rblocks_any (A : Option Addr) (n c : Nat) (xs : List Int) (w : World) (hx : Rd .u8 w A n c xs) (hy : Byt xs) (hn : n ≤ 79536) : Calls Try.prog 41 #[.slice A n c] w (BkAll xs w) := by
  have hl := hx.len
  have h1600 : ¬ ((n : Int) > 79536) := by omega
  by_cases h1 : n < 1
  · have hb : bE xs = 2 := by unfold bE; rw [if_pos (by omega)]
    have HBD := Lib.hid (fun w' hB => BkAll.bad (w := w) (w' := w') hB hb (by decide))
    clear hb
    go_enter Try.func41, Try.ntmps41
    go_wp2
    go_ret2
    exact HBD.out _ (Below.refl _ _)
  · have HRC := Lib.hid (fun W h => rcompute_any 1 A n c xs W h (by omega))
    have er := err_agree 1 xs
    have rr := res_agree 1 (xs := xs) (fun x hx => (hy x hx).1)
    rw [er, rr] at HRC
    by_cases hv : ValidB xs = true
    · have hbit := bit_of (fun x hx => (hy x hx).1) hv
      have hb : bE xs = 0 := by unfold bE; rw [if_neg (by omega), if_pos hv]
      have e1 : cErr 1 xs = 0 := by unfold cErr; rw [if_neg (by decide), if_pos hv]
      have e2 : cRes 1 xs = crcSum 1 xs := by unfold cRes; rw [if_neg (by decide), if_pos hv]
      rw [e1, e2] at HRC
      have hcl : (crcSum 1 xs).length = 24 := by rw [crcSum_len]; rfl
      have hcb : Bit (crcSum 1 xs) := bit_sum (by decide) hbit
      have HSP := Lib.hid (fun X c W h => rsplit_all X (n + 24) c (xs ++ crcSum 1 xs) W h (byt_bit (bit_app hbit hcb)) (by omega))
      have hs : sE (xs ++ crcSum 1 xs) = 0 := by
        unfold sE
        rw [List.length_append, hcl, if_neg (by omega), if_pos (validB_of_bit (bit_app hbit hcb))]
      unfold SpAll at HSP
      rw [hs] at HSP
      unfold BkAll
      have HBD := Lib.hid (show bD xs = sD (xs ++ crcSum 1 xs) by unfold bD; rw [if_pos hb])
      rw [hb]
      have HX := Lib.hid hx
      clear er rr hv hb e1 e2 hs hbit hx hy
      go_enter Try.func41, Try.ntmps41
      go_wp2_with (first
        | (go_at_call 80; refine (HRC.out w HX.out).mono ?_; rintro e w1 ⟨A1, n1, c1, rfl, hO1, hB1⟩; have hn1 : n1 = 24 := (by have := Rd.len hO1; rw [hcl] at this; exact this.symm); subst hn1; have HR1 := Lib.hid hO1; have HX1 := Lib.hid (Rdv.below HX.out hB1); have HB1 := Lib.hid hB1; clear hO1 hB1)
        | (at_builtin; refine list_of rfl fun K hK => wp_app0 _ _ 53 rfl el53 rfl rfl HX1.out (oneCell_ints .u8 xs) (by omega) ?_; intro A2 c2 w2 hO2 hB2; have HO2 := Lib.hid hO2; have HR2 := Lib.hid (Rdv.below HR1.out hB2); have HB2 := Lib.hid hB2; clear hO2 hB2; refine hK _ _ ?_; clear hK K)
        | (at_builtin; refine list_of rfl fun K hK => wp_app (base := w1.heap.size) _ _ 53 rfl el53 rfl rfl HO2.out HR2.out (oneCell_ints .u8 (crcSum 1 xs)) (by omega) (by unfold maxLen; omega) HB2.out.size ?_; intro A3 c3 w3 hO3 hg3; have HO3 := Lib.hid hO3; have HB3 := Lib.hid (HB2.out.grown hg3 HB2.out.size (fun k hk => Ownv.ob' HO2.out hk)); clear hO3 hg3; refine hK _ _ ?_; clear hK K))
      have hrd : Rd .u8 w3 A3 (n + 24) c3 (xs ++ crcSum 1 xs) := by have h9 := HO3.out.rd; rw [← List.map_append] at h9; exact h9
      refine (HSP.out A3 c3 w3 hrd).mono ?_
      rintro e w4 ⟨A', n', c', L, rfl, hS⟩
      have HS := Lib.hid hS
      have HBW := Lib.hid (HB1.out.trans (HB3.out.mono HB1.out.size))
      clear hS hrd
      go_wp2
      go_ret2
      exact ⟨A', n', c', L, rfl, HS.out.b.mono HBW.out.size, HS.out.n, by rw [HBD.out]; exact HS.out.l, HS.out.y, HBW.out.trans (HS.out.k.mono HBW.out.size)⟩
    · have hb : bE xs = 3 := by unfold bE; rw [if_neg (by omega), if_neg hv]
      have e1 : cErr 1 xs = 3 := by unfold cErr; rw [if_neg (by decide), if_neg hv]
      rw [e1] at HRC
      have HBD := Lib.hid (fun w' hB => BkAll.bad (w := w) (w' := w') hB hb (by decide))
      have HX := Lib.hid hx
      clear er rr hv hb e1 hx hy
      go_enter Try.func41, Try.ntmps41
      go_wp2_with (go_at_call 80; refine (HRC.out w HX.out).mono ?_; rintro e w1 ⟨A1, n1, c1, rfl, hO1, hB1⟩; have HB1 := Lib.hid hB1; clear hO1 hB1)
      go_ret2
      exact HBD.out _ HB1.out
/-- the error of transport.Join -/
def tE (sz : Int) (L : List Sv) : Int := if sz < 1 ∨ 79536 < sz then 2 else if jE (sz + 24) L = 0 then chkErr 1 (jR (sz + 24) L) else jE (sz + 24) L
def tR (sz : Int) (L : List Sv) : List Int := if sz < 1 ∨ 79536 < sz then [] else if jE (sz + 24) L = 0 then chkRes 1 (jR (sz + 24) L) else []
theorem jErr_inv {b : Nat} {L : List Sv} (h : jErr b L = 0) : jV L = true ∧ L.length = bC b ∧ jS b L = true := by
  unfold jErr at h
  split at h
  · cases h
  · rename_i h1
    split at h
    · cases h
    · rename_i h2
      split at h
      · cases h
      · rename_i h3
        exact ⟨by simpa using h1, by simpa using h2, by simpa using h3⟩
theorem jS_inv {b : Nat} {L : List Sv} (h : jS b L = true) : ∀ q s, L[q]? = some s → s.n = sz b q := by
  intro q s hq
  unfold jS at h
  rw [List.all_eq_true] at h
  have hl := (List.getElem?_eq_some_iff.1 hq).1
  have h1 := h q (List.mem_range.2 hl)
  rw [hq] at h1
  simpa using h1
theorem jR_len {b : Int} {L : List Sv} (hx : ∀ s ∈ L, s.xs.length = s.n) : (jR b L).length ≤ 90000 := by
  unfold jR
  split
  · simp
  · rename_i hb
    unfold jRes
    split
    · rename_i h
      obtain ⟨h1, h2, h3⟩ := jErr_inv h
      rw [List.length_drop, jD_len hx (jS_inv h3) _ (Nat.le_refl _), h2, off_all (by omega)]
      omega
    · simp
theorem tjoin_any (sz : Int) (A : Option Addr) (n c : Nat) (L : List Sv) (w : World) (hL : RL w A n c L) (hs : ∀ s ∈ L, s.n ≤ 100000) :
    Calls Try.prog 43 #[.int .i64 sz, .slice A n c] w fun e w' => ∃ A' n' c', e = .returned (.tuple #[.slice A' n' c', .int .i64 (tE sz L)]) ∧ Rd .u8 w' A' n' c' (tR sz L) ∧ Below w.heap.size w w' := by
  have HLY := Lib.hid (fun W => lay_any sz W)
  by_cases h : sz < 1 ∨ 79536 < sz
  · have e1 : tE sz L = 2 := by unfold tE; rw [if_pos h]
    have e2 : tR sz L = [] := by unfold tR; rw [if_pos h]
    have hly : ly15 sz = (zero7, 2) := by unfold ly15; rw [if_pos h]
    rw [e1, e2]
    rw [hly] at HLY
    clear h e1 e2 hly
    simp only [ints8, zero7, List.map_cons, List.map_nil] at HLY
    go_enter Try.func43, Try.ntmps43
    go_wp2_with fail
    refine (HLY.out _).mono ?_
    rintro e w1 ⟨rfl, hB1⟩
    have HB2 := Lib.hid (bal hB1 (.cells #[.int .i64 0, .int .i64 0, .int .i64 0, .int .i64 0, .int .i64 0, .int .i64 0, .int .i64 0] 23))
    clear hB1
    go_wp2
    go_ret2
    exact ⟨none, 0, 0, rfl, Rd.nilv _ _, HB2.out⟩
  · have hly : ly15 sz = (LY (sz + 24).toNat, 0) := by unfold ly15; rw [if_neg h]
    rw [hly] at HLY
    have hsw : IntKind.i64.wrap (sz + 24) = sz + 24 := by rw [IntKind.wrap_i64]; omega
    have HJ := Lib.hid (fun W h => join_all (sz + 24) A n c L W h hs)
    unfold JAll at HJ
    have hlen := jR_len (b := sz + 24) (L := L) (fun s hs => Rd.len (hL.r s hs))
    have e1 : tE sz L = if jE (sz + 24) L = 0 then chkErr 1 (jR (sz + 24) L) else jE (sz + 24) L := by unfold tE; rw [if_neg h]
    have e2 : tR sz L = if jE (sz + 24) L = 0 then chkRes 1 (jR (sz + 24) L) else [] := by unfold tR; rw [if_neg h]
    rw [e1, e2]
    obtain ⟨ly, hl2⟩ : ∃ ly, ly = LY (sz + 24).toNat := ⟨_, rfl⟩
    have hl7 : ly.length = 7 := by rw [hl2]; rfl
    rw [← hl2] at HLY
    obtain ⟨E, hE⟩ : ∃ E, E = jE (sz + 24) L := ⟨_, rfl⟩
    obtain ⟨X, hX⟩ : ∃ X, X = jR (sz + 24) L := ⟨_, rfl⟩
    rw [← hE, ← hX] at HJ ⊢
    rw [← hX] at hlen
    clear hE hX h hly e1 e2 hl2
    have HL := Lib.hid hL
    clear hL
    by_cases hE0 : E = 0
    · subst hE0
      rw [if_pos rfl, if_pos rfl]
      go_enter Try.func43, Try.ntmps43
      go_wp2_with fail
      refine (HLY.out _).mono ?_
      rintro e w1 ⟨rfl, hB1⟩
      have hL0 : Blk (w1.alloc (.cells (ints8 zero7).toArray 23)) w1.heap.size 23 (ints8 zero7) := Blk.new w1 _ 23 rfl
      have HB1 := Lib.hid hB1
      clear hB1
      simp only [ints8, zero7, List.map_cons, List.map_nil] at hL0
      go_wp2_with (first
        | (refine strow (cs := ints8 ly) rfl 23 (.tmp 6) (.tmp 13) rfl rfl rfl hL0 (by simp [ints8, hl7]) (by rw [info23]; simp [ints8, hl7]) (ints8_one ly) ?_
           intro W2 g1 g2
           have hq := (Below.refl w1.heap.size w1).alloc (Nat.le_refl _) (.cells #[.int .i64 0, .int .i64 0, .int .i64 0, .int .i64 0, .int .i64 0, .int .i64 0, .int .i64 0] 23)
           have HB2 := Lib.hid (hq.grown g2 hq.size (fun k hk => by cases hk; exact Nat.le_refl _))
           clear g1 g2 hq hL0))
      have d := HB1.out.trans (HB2.out.mono HB1.out.size)
      refine (HJ.out W2 (HL.out.below d)).mono ?_
      rintro e w3 ⟨A3, n3, c3, rfl, hR3, hB3⟩
      have hn3 : n3 ≤ 100000 := by have := hR3.len; omega
      have HR3 := Lib.hid hR3
      have HD := Lib.hid (d.trans (hB3.mono d.size))
      clear d hR3 hB3
      go_wp2_with fail
      refine (check_any 1 A3 n3 c3 X w3 HR3.out hn3).mono ?_
      rintro e w4 ⟨A4, n4, c4, rfl, hO4, hB4⟩
      have HO4 := Lib.hid (Own.rd hO4)
      have HD4 := Lib.hid (HD.out.trans (hB4.mono HD.out.size))
      clear hO4 hB4
      go_wp2
      go_ret2
      exact ⟨A4, n4, c4, rfl, HO4.out, HD4.out⟩
    · rw [if_neg hE0, if_neg hE0]
      have hq : (E != 0) = true := bne_t hE0
      clear hE0
      go_enter Try.func43, Try.ntmps43
      go_wp2_with fail
      refine (HLY.out _).mono ?_
      rintro e w1 ⟨rfl, hB1⟩
      have hL0 : Blk (w1.alloc (.cells (ints8 zero7).toArray 23)) w1.heap.size 23 (ints8 zero7) := Blk.new w1 _ 23 rfl
      have HB1 := Lib.hid hB1
      clear hB1
      simp only [ints8, zero7, List.map_cons, List.map_nil] at hL0
      go_wp2_with (first
        | (refine strow (cs := ints8 ly) rfl 23 (.tmp 6) (.tmp 13) rfl rfl rfl hL0 (by simp [ints8, hl7]) (by rw [info23]; simp [ints8, hl7]) (ints8_one ly) ?_
           intro W2 g1 g2
           have hq := (Below.refl w1.heap.size w1).alloc (Nat.le_refl _) (.cells #[.int .i64 0, .int .i64 0, .int .i64 0, .int .i64 0, .int .i64 0, .int .i64 0, .int .i64 0] 23)
           have HB2 := Lib.hid (hq.grown g2 hq.size (fun k hk => by cases hk; exact Nat.le_refl _))
           clear g1 g2 hq hL0))
      have d := HB1.out.trans (HB2.out.mono HB1.out.size)
      refine (HJ.out W2 (HL.out.below d)).mono ?_
      rintro e w3 ⟨A3, n3, c3, rfl, hR3, hB3⟩
      have HD := Lib.hid (d.trans (hB3.mono d.size))
      clear d hR3 hB3
      go_wp2
      go_ret2
      exact ⟨none, 0, 0, rfl, Rd.nilv _ _, HD.out⟩
end Go.Proofs.Ytcbbkflnenkpgaa

namespace Go.Proofs.Ytcbbkflnenkpgaa
open Go.RowKit CM
set_option linter.unusedVariables false
/-- one row is replaced by a row that is older than the list -/
theorem BL.putx {w : World} {base c : Nat} {A : Option Addr} {L : List Sv} (h : BL w base A c L) {k : Nat} {r : Sv} (hk : k < L.length) (hr : Rd .u8 w r.A r.n r.c r.xs) (hb : 0 < r.c → blk r.A < base) :
    RL (w.setCell (adr A k) (.slice r.A r.n r.c)) A L.length c (L.set k r) ∧ w.grownBy (w.setCell (adr A k) (.slice r.A r.n r.c)) (some (blk A)) := by
  have h2 := Ownv.set_ h.o hk (Sv.v r)
  have hA := h.none_ne hk
  have hlo := (Ownv.blk_of h.o hA).1
  refine ⟨⟨by rw [List.map_set]; exact h2.1.rd, fun s hs => ?_⟩, h2.2⟩
  rcases List.mem_or_eq_of_mem_set hs with hs | rfl
  · exact Own.rd (Ownv.grown (h.r s hs).1 h2.2 (fun hB => own_of_ne hA (rows_ne (h.r s hs).1 h.o (by decide) hB)))
  · by_cases hc : 0 < s.c
    · exact Rdv.grown hr h2.2 (fun _ e => by have h8 := hb hc; have h9 := Option.some.inj e; omega)
    · have h1 := Rdv.le hr
      have h3 := Rdv.len hr
      have hv : List.map (Value.int .u8) s.xs = [] := List.eq_nil_of_length_eq_zero (by omega)
      unfold Rd
      rw [hv]
      exact ⟨by rw [← h3, hv], h1, Rdv.cm hr, Rdv.nil hr, fun h9 => absurd h9 hc, fun h9 => absurd h9 hc, by simp⟩
theorem jR_byt {b : Int} {L : List Sv} (h : ∀ s ∈ L, Byt s.xs) : Byt (jR b L) := by
  unfold jR
  split
  · intro x hx; simp at hx
  · unfold jRes
    split
    · intro x hx
      have h1 := List.mem_of_mem_drop hx
      unfold jD at h1
      obtain ⟨s, hs, h2⟩ := List.mem_flatMap.1 h1
      exact h s (List.mem_of_mem_take hs) x (List.mem_of_mem_take h2)
    · intro x hx; simp at hx
theorem bD_le {xs : List Int} : (∀ d ∈ bD xs, d.length ≤ 6168) ∧ (bD xs).length ≤ 13 := by
  unfold bD
  split
  · exact sD_le
  · exact ⟨by simp, by simp⟩
set_option maxRecDepth 100000 in
set_option maxHeartbeats 4000000 in
theorem joins_law (l s a y sz bk : Int) (A : Option Addr) (n c : Nat) (ys : List Int) (miss : Bool) (w : World) (hyy : 0 ≤ y ∧ y < 256) (hbk : -9223372036854775808 ≤ bk ∧ bk ≤ 9223372036854775807) (hx : Rd .u8 w A n c ys) (hyb : Byt ys) :
    Calls Try.prog 13 #[.agg #[.int .i64 l, .int .u32 s, .int .i64 a, .int .u8 y], .int .i64 sz, .int .i64 bk, .slice A n c, .bool miss] w fun e w' => e = .returned (.bool true) ∧ Below w.heap.size w w' := by
  have hbd := hx.bd.1
  have HP := Lib.hid (fun W => bits15_any l s a y W hyy)
  have hc0 := Blk.new w [.int .i64 l, .int .u32 s, .int .i64 a, .int .u8 y] 76 rfl
  have HB0 := Lib.hid (show Below w.heap.size w (w.alloc (.cells [.int .i64 l, .int .u32 s, .int .i64 a, .int .u8 y].toArray 76)) from (Below.refl _ _).alloc (Nat.le_refl _) _)
  have HX0 := Lib.hid (Rdv.alloc hx (.cells [.int .i64 l, .int .u32 s, .int .i64 a, .int .u8 y].toArray 76))
  have HXL : Hid (0 < c → blk A < w.heap.size) := Lib.hid (fun hc => by obtain ⟨bb, oo, rfl, h9⟩ := Rdv.ptr hx hc; exact h9)
  have HYB := Lib.hid hyb
  clear hx hyb hyy
  by_cases hbig : 200 < n
  · go_enter Try.func13, Try.ntmps13
    go_wp2_with fail
    refine (known_any _).mono ?_
    rintro e w9 ⟨rfl, hB9⟩
    have HBX := Lib.hid (HB0.out.trans (hB9.mono HB0.out.size))
    clear hB9
    go_wp2
    go_ret
    exact ⟨rfl, HBX.out⟩
  · have hn2 : n ≤ 200 := by omega
    clear hbig
    go_enter Try.func13, Try.ntmps13
    go_wp2_with (first
      | (refine ldrow (cs := [.int .i64 l, .int .u32 s, .int .i64 a, .int .u8 y]) rfl 76 (.tmp 5) rfl rfl hc0 _ Try.underlying76 rfl (by kernel_rfl) ?_)
      | (go_at_call 42; refine (HP.out _).mono ?_; rintro e w1 ⟨m, A1, xs, hm, rfl, hO1, hby, hB1⟩; have HX1 := Lib.hid (Rdv.below HX0.out hB1); have HO1 := Lib.hid (Own.rd hO1); have HBY1 := Lib.hid hby; have HB1 := Lib.hid (HB0.out.trans (hB1.mono HB0.out.size)); clear hO1 hby hB1 hc0))
    refine (rblocks_any A1 m m xs w1 HO1.out HBY1.out (by omega)).mono ?_
    rintro e w2 ⟨A2, n2, c2, L, rfl, hK⟩
    have HK := Lib.hid hK
    clear hK
    have HX2 := Lib.hid (Rdv.below HX1.out HK.out.k)
    have HB2 := Lib.hid (HB1.out.trans (HK.out.k.mono HB1.out.size))
    have HBL := Lib.hid HK.out.b
    have HNL := Lib.hid HK.out.n
    have HBS := Lib.hid HB1.out.size
    have HS0 : Hid (∀ s ∈ L, s.n ≤ 100000) := Lib.hid (fun s hs => by
      have h1 := (bD_le (xs := xs)).1 s.xs (by rw [← HK.out.l]; exact List.mem_map_of_mem hs)
      have h2 := Rd.len (Own.rd (HK.out.b.r s hs).1)
      omega)
    have hfew : n2 ≤ 13 := by
      have h1 := (bD_le (xs := xs)).2
      rw [← HK.out.l, List.length_map] at h1
      rw [HNL.out]; exact h1
    have HY0 : Hid (∀ s ∈ L, Byt s.xs) := Lib.hid (fun s hs => byt_bit (HK.out.y s hs))
    have HRL : Hid (RL w2 A2 n2 c2 L) := Lib.hid (by rw [HNL.out]; exact HBL.out.rl)
    clear HK HX1 HO1 HBY1 HB1 HP HX0
    generalize w1.heap.size = base at *
    by_cases hin : 0 ≤ bk ∧ bk < (n2 : Int)
    · obtain ⟨k, rfl⟩ : ∃ k : Nat, bk = k := ⟨bk.toNat, by omega⟩
      have hk : k < n2 := by omega
      have hkw : IntKind.i64.wrap ((k : Int) + 1) = (k : Int) + 1 := by rw [IntKind.wrap_i64]; omega
      cases miss with
      | true =>
        have hcap := Rdv.le HRL.out.o
        have hslA : ∀ W, (Instr.sliceAt 55 (.slice A2 n2 c2) none (some (.int .i64 (k : Int))) none).run Try.prog W = .ok (.slice A2 k c2) W := fun W => Rdv.slh HRL.out.o el55 .i64 (by omega) W
        have hslB : ∀ W, (Instr.sliceAt 55 (.slice A2 n2 c2) (some (.int .i64 ((k : Int) + 1))) none none).run Try.prog W = .ok (.slice (cut A2 c2 (k + 1)) (n2 - (k + 1)) (c2 - (k + 1))) W := fun W => by
          have := Rdv.sll HRL.out.o el55 .i64 (l := k + 1) (by omega) W
          rwa [show ((k + 1 : Nat) : Int) = (k : Int) + 1 from rfl] at this
        have HRA := Lib.hid (Rdv.upto HRL.out.o (m := k) (by omega))
        have HRB := Lib.hid (Rdv.cut_ HRL.out.o (l := k + 1) (m := n2) (by omega) (Nat.le_refl _))
        have HV1 := Lib.hid (show ∀ u ∈ (L.map Sv.v).take k, u.oneCell' = true from fun u hu => by obtain ⟨t, -, rfl⟩ := List.mem_map.1 (List.mem_of_mem_take hu); rfl)
        have HV2 := Lib.hid (show ∀ u ∈ ((L.map Sv.v).take n2).drop (k + 1), u.oneCell' = true from fun u hu => by obtain ⟨t, -, rfl⟩ := List.mem_map.1 (List.mem_of_mem_take (List.mem_of_mem_drop hu)); rfl)
        have HLA := Lib.hid HRL.out.len
        go_wp2_with fail
        refine wp_nopanic ?_
        refine P_start (fun _ => True) 9 10 #[false, false, false, false, false, false, false, false, false, false] (by kernel_rfl) (by kernel_rfl) (by kernel_rfl) ?_
        refine P_takeW 0 38 (.slice A2 n2 c2) #[true, false, false, false, false, false, false, false, false, false] rfl rfl (by kernel_rfl) (by kernel_rfl) (by kernel_rfl) (by kernel_rfl) (by decide) (fun _ _ _ h => h) (Or.inl ⟨by rfl, fun W hS => by go_simp⟩) trivial ?_
        simp only [List.setIfInBounds_toArray, List.set_cons_zero, List.set_cons_succ]
        refine P_takeW 1 39 (.int .i64 (k : Int)) #[true, true, false, false, false, false, false, false, false, false] rfl rfl (by kernel_rfl) (by kernel_rfl) (by kernel_rfl) (by kernel_rfl) (by decide) (fun _ _ _ h => h) (Or.inl ⟨by rfl, fun W hS => by go_simp⟩) trivial ?_
        simp only [List.setIfInBounds_toArray, List.set_cons_zero, List.set_cons_succ]
        refine P_takeW 2 40 (.slice A2 k c2) #[true, true, true, false, false, false, false, false, false, false] rfl rfl (by kernel_rfl) (by kernel_rfl) (by kernel_rfl) (by kernel_rfl) (by decide) (fun _ _ _ h => h) (Or.inl ⟨by rfl, fun W hS => by go_simp⟩) trivial ?_
        simp only [List.setIfInBounds_toArray, List.set_cons_zero, List.set_cons_succ]
        refine P_takeW 4 42 (.slice A2 n2 c2) #[true, true, true, false, true, false, false, false, false, false] rfl rfl (by kernel_rfl) (by kernel_rfl) (by kernel_rfl) (by kernel_rfl) (by decide) (fun _ _ _ h => h) (Or.inl ⟨by rfl, fun W hS => by go_simp⟩) trivial ?_
        simp only [List.setIfInBounds_toArray, List.set_cons_zero, List.set_cons_succ]
        refine P_takeW 5 43 (.int .i64 (k : Int)) #[true, true, true, false, true, true, false, false, false, false] rfl rfl (by kernel_rfl) (by kernel_rfl) (by kernel_rfl) (by kernel_rfl) (by decide) (fun _ _ _ h => h) (Or.inl ⟨by rfl, fun W hS => by go_simp⟩) trivial ?_
        simp only [List.setIfInBounds_toArray, List.set_cons_zero, List.set_cons_succ]
        refine P_takeW 6 44 (.int .i64 ((k : Int) + 1)) #[true, true, true, false, true, true, true, false, false, false] rfl rfl (by kernel_rfl) (by kernel_rfl) (by kernel_rfl) (by kernel_rfl) (by decide) (fun _ _ _ h => h) (Or.inl ⟨by rfl, fun W hS => by go_simp⟩) trivial ?_
        simp only [List.setIfInBounds_toArray, List.set_cons_zero, List.set_cons_succ]
        refine P_takeW 7 45 (.slice (cut A2 c2 (k + 1)) (n2 - (k + 1)) (c2 - (k + 1))) #[true, true, true, false, true, true, true, true, false, false] rfl rfl (by kernel_rfl) (by kernel_rfl) (by kernel_rfl) (by kernel_rfl) (by decide) (fun _ _ _ h => h) (Or.inl ⟨by rfl, fun W hS => by go_simp⟩) trivial ?_
        simp only [List.setIfInBounds_toArray, List.set_cons_zero, List.set_cons_succ]
        refine P_oneS 3 #[true, true, true, true, true, true, true, true, false, false] rfl (by kernel_rfl) (by kernel_rfl) rfl (fun K hK => ?_)
        refine wp_app0 (.const (.slice none 0 0)) (.tmp 40) 55 rfl el55 rfl rfl (Rdv.drewN HRA.out 1) HV1.out (by omega) ?_
        intro A9 c9 w9 hO9 hB9
        have HB9 := Lib.hid (((Below.refl w2.heap.size w2).drew).trans hB9)
        have HO9 := Lib.hid hO9
        clear hO9 hB9
        refine hK _ _ trivial ?_
        clear hK K
        refine P_oneS 8 #[true, true, true, true, true, true, true, true, true, false] rfl (by kernel_rfl) (by kernel_rfl) rfl (fun K hK => ?_)
        refine wp_app (base := w2.heap.size) (.tmp 41) (.tmp 45) 55 rfl el55 rfl rfl HO9.out (Rdv.below HRB.out HB9.out) HV2.out (by omega) (by unfold maxLen; omega) HB9.out.size ?_
        intro A10 c10 w10 hO10 hg10
        have HB10 := Lib.hid (HB9.out.grown hg10 HB9.out.size (fun j hj => Ownv.ob' HO9.out hj))
        have HO10 := Lib.hid hO10
        clear hO10 hg10
        refine hK _ _ trivial ?_
        clear hK K
        refine P_one 9 #[true, true, true, true, true, true, true, true, true, true] rfl (by kernel_rfl) (by kernel_rfl) rfl (by kernel_rfl) (fun K hK => ?_)
        go_simp
        refine hK _ _ ?_
        clear hK K
        refine P_done (by kernel_rfl) ?_ _
        refine noPanic_normal ?_
        have HLM := Lib.hid (show ∀ s ∈ L.take k ++ L.drop (k + 1), s ∈ L from fun s hs => by
          rcases List.mem_append.1 hs with hs | hs
          · exact List.mem_of_mem_take hs
          · exact List.mem_of_mem_drop hs)
        have HRW := Lib.hid (show RL w10 A10 (k + (n2 - (k + 1))) c10 (L.take k ++ L.drop (k + 1)) from ⟨by
          have := HO10.out.rd
          rwa [show (List.map Sv.v L).take n2 = List.map Sv.v L from List.take_of_length_le (by rw [List.length_map, HLA.out]; exact Nat.le_refl _), ← List.map_take, ← List.map_drop, ← List.map_append] at this, fun s hs => Rdv.below (HRL.out.r s (HLM.out s hs)) HB10.out⟩)
        have HSW := Lib.hid (show ∀ s ∈ L.take k ++ L.drop (k + 1), s.n ≤ 100000 from fun s hs => HS0.out s (HLM.out s hs))
        have HYW := Lib.hid (show ∀ s ∈ L.take k ++ L.drop (k + 1), Byt s.xs from fun s hs => HY0.out s (HLM.out s hs))
        have HBW := Lib.hid (HB2.out.trans (HB10.out.mono HB2.out.size))
        clear hslA hslB hkw hcap
        go_wp2_with fail
        refine (tjoin_any sz _ _ _ (L.take k ++ L.drop (k + 1)) _ HRW.out HSW.out).mono ?_
        rintro e w5 ⟨A5, n5, c5, rfl, hR5, hB5⟩
        have HR5 := Lib.hid hR5
        have HRL5 := Lib.hid (RL.below HRW.out hB5)
        have HD5 := Lib.hid (HBW.out.trans (hB5.mono HBW.out.size))
        clear hR5 hB5
        by_cases hsz : sz < 1 ∨ 79536 < sz
        · have e1 : tE sz (L.take k ++ L.drop (k + 1)) = 2 := by unfold tE; rw [if_pos hsz]
          have e2 : tR sz (L.take k ++ L.drop (k + 1)) = [] := by unfold tR; rw [if_pos hsz]
          rw [e1]
          rw [e2] at HR5
          have hn5 : n5 = 0 := by have := HR5.out.len; exact this.symm
          subst hn5
          clear e1 e2
          rcases hsz with hsz | hsz
          · have q1 : decide (sz < 1) = true := by simp; omega
            go_wp2_with fail
            refine (known_any _).mono ?_
            rintro e w9 ⟨rfl, hB9⟩
            have HBX := Lib.hid (HD5.out.trans (hB9.mono HD5.out.size))
            clear hB9
            go_wp2
            go_ret
            exact ⟨rfl, HBX.out⟩
          · have q1 : decide (sz < 1) = false := by simp; omega
            have q2 : decide (sz > 79536) = true := by simp; omega
            go_wp2_with fail
            refine (known_any _).mono ?_
            rintro e w9 ⟨rfl, hB9⟩
            have HBX := Lib.hid (HD5.out.trans (hB9.mono HD5.out.size))
            clear hB9
            go_wp2
            go_ret
            exact ⟨rfl, HBX.out⟩
        · have q1 : decide (sz < 1) = false := by simp; omega
          have q2 : decide (sz > 79536) = false := by simp; omega
          have hsw : IntKind.i64.wrap (sz + 24) = sz + 24 := by rw [IntKind.wrap_i64]; omega
          have e1 : tE sz (L.take k ++ L.drop (k + 1)) = if jE (sz + 24) (L.take k ++ L.drop (k + 1)) = 0 then chkErr 1 (jR (sz + 24) (L.take k ++ L.drop (k + 1))) else jE (sz + 24) (L.take k ++ L.drop (k + 1)) := by unfold tE; rw [if_neg hsz]
          have e2 : tR sz (L.take k ++ L.drop (k + 1)) = if jE (sz + 24) (L.take k ++ L.drop (k + 1)) = 0 then chkRes 1 (jR (sz + 24) (L.take k ++ L.drop (k + 1))) else [] := by unfold tR; rw [if_neg hsz]
          have HJ := Lib.hid (fun W h => rjoin_all (sz + 24) A10 (k + (n2 - (k + 1))) c10 (L.take k ++ L.drop (k + 1)) W h HSW.out HYW.out)
          have hlen := jR_len (b := sz + 24) (L := (L.take k ++ L.drop (k + 1))) (fun s hs => Rd.len (HRL5.out.r s hs))
          unfold JAll at HJ
          have HYJ := Lib.hid (jR_byt (b := sz + 24) HYW.out)
          rw [e1]
          rw [e2] at HR5
          clear e1 e2 hsz
          obtain ⟨E, hE⟩ : ∃ E, E = jE (sz + 24) (L.take k ++ L.drop (k + 1)) := ⟨_, rfl⟩
          obtain ⟨X, hX⟩ : ∃ X, X = jR (sz + 24) (L.take k ++ L.drop (k + 1)) := ⟨_, rfl⟩
          rw [← hE, ← hX] at HJ HR5 ⊢
          rw [← hX] at hlen HYJ
          clear hE hX
          by_cases hE0 : E = 0
          · subst hE0
            rw [if_pos rfl]
            rw [if_pos rfl] at HR5
            go_wp2_with fail
            refine (HJ.out w5 HRL5.out).mono ?_
            rintro e w6 ⟨A6, n6, c6, rfl, hR6, hB6⟩
            have hn6 : n6 ≤ 100000 := by have := hR6.len; omega
            have HR56 := Lib.hid (Rdv.below HR5.out hB6)
            have HR6 := Lib.hid hR6
            have HD6 := Lib.hid (HD5.out.trans (hB6.mono HD5.out.size))
            clear hR6 hB6
            go_wp2_with fail
            refine (rcheck_any 1 A6 n6 c6 X w6 HR6.out hn6).mono ?_
            rintro e w7 ⟨A7, n7, c7, rfl, hR7, hB7⟩
            rw [chkerr_agree 1 (fun x hx => (HYJ.out x hx).1)] at *
            rw [chkres_agree 1 (fun x hx => (HYJ.out x hx).1)] at hR7
            have HR57 := Lib.hid (Rdv.below HR56.out hB7)
            have HR7 := Lib.hid hR7
            have HD7 := Lib.hid (HD6.out.trans (hB7.mono HD6.out.size))
            clear hR7 hB7
            go_wp2_with fail
            refine (same_any A5 A7 n5 c5 n7 c7 _ _ w7 HR57.out HR7.out).mono ?_
            rintro e w8 ⟨he, q8, rfl⟩
            rw [decide_eq_true rfl] at he
            subst he
            have HD8 := Lib.hid (HD7.out.trans (Qt.below ⟨q8, rfl⟩ w.heap.size))
            go_wp2_with fail
            refine (known_any _).mono ?_
            rintro e w9 ⟨rfl, hB9⟩
            have HBX := Lib.hid (HD8.out.trans (hB9.mono HD8.out.size))
            clear hB9
            go_wp2
            go_ret
            exact ⟨rfl, HBX.out⟩
          · rw [if_neg hE0]
            rw [if_neg hE0] at HR5
            have hn5 : n5 = 0 := by have := HR5.out.len; exact this.symm
            subst hn5
            have hq : (E != 0) = true := bne_t hE0
            clear hE0
            go_wp2_with fail
            refine (HJ.out w5 HRL5.out).mono ?_
            rintro e w6 ⟨A6, n6, c6, rfl, hR6, hB6⟩
            have HD6 := Lib.hid (HD5.out.trans (hB6.mono HD5.out.size))
            clear hR6 hB6
            go_wp2_with fail
            refine (known_any _).mono ?_
            rintro e w9 ⟨rfl, hB9⟩
            have HBX := Lib.hid (HD6.out.trans (hB9.mono HD6.out.size))
            clear hB9
            go_wp2
            go_ret
            exact ⟨rfl, HBX.out⟩
      | false =>
        have hkL : k < L.length := by rw [← HNL.out]; exact hk
        have hcell := (HRL.out.o.at_ k (L[k]).v (by rw [List.getElem?_map, List.getElem?_eq_getElem hkL]; rfl))
        have hfz := Ownv.frozen HBL.out.o (by have := Rdv.le HRL.out.o; omega) k
        have hix := fun W => Rdv.ix HRL.out.o el55 hk .i64 W
        obtain ⟨rl, hg⟩ := BL.putx HBL.out hkL (r := ⟨A, n, c, ys⟩) HX2.out (fun hc => Nat.lt_of_lt_of_le (HXL.out hc) HBS.out)
        have HPUT : Hid (RL (w2.setCell (adr A2 k) (.slice A n c)) A2 n2 c2 (L.set k ⟨A, n, c, ys⟩)) := Lib.hid (by have h9 := rl; rw [← HNL.out] at h9; exact h9)
        have HBW := Lib.hid (HB2.out.grown hg HB2.out.size (fun j hj => by cases hj; exact Nat.le_trans HBS.out (Ownv.blk_of HBL.out.o (HBL.out.none_ne hkL)).1))
        have HSW := Lib.hid (show ∀ s ∈ L.set k ⟨A, n, c, ys⟩, s.n ≤ 100000 from fun s hs => by
          rcases List.mem_or_eq_of_mem_set hs with hs | rfl
          · exact HS0.out s hs
          · show n ≤ 100000; omega)
        have HYW := Lib.hid (show ∀ s ∈ L.set k ⟨A, n, c, ys⟩, Byt s.xs from fun s hs => by
          rcases List.mem_or_eq_of_mem_set hs with hs | rfl
          · exact HY0.out s hs
          · exact HYB.out)
        clear rl hg
        go_wp2_with fail
        refine (tjoin_any sz _ _ _ (L.set k ⟨A, n, c, ys⟩) _ HPUT.out HSW.out).mono ?_
        rintro e w5 ⟨A5, n5, c5, rfl, hR5, hB5⟩
        have HR5 := Lib.hid hR5
        have HRL5 := Lib.hid (RL.below HPUT.out hB5)
        have HD5 := Lib.hid (HBW.out.trans (hB5.mono HBW.out.size))
        clear hR5 hB5
        by_cases hsz : sz < 1 ∨ 79536 < sz
        · have e1 : tE sz (L.set k ⟨A, n, c, ys⟩) = 2 := by unfold tE; rw [if_pos hsz]
          have e2 : tR sz (L.set k ⟨A, n, c, ys⟩) = [] := by unfold tR; rw [if_pos hsz]
          rw [e1]
          rw [e2] at HR5
          have hn5 : n5 = 0 := by have := HR5.out.len; exact this.symm
          subst hn5
          clear e1 e2
          rcases hsz with hsz | hsz
          · have q1 : decide (sz < 1) = true := by simp; omega
            go_wp2_with fail
            refine (known_any _).mono ?_
            rintro e w9 ⟨rfl, hB9⟩
            have HBX := Lib.hid (HD5.out.trans (hB9.mono HD5.out.size))
            clear hB9
            go_wp2
            go_ret
            exact ⟨rfl, HBX.out⟩
          · have q1 : decide (sz < 1) = false := by simp; omega
            have q2 : decide (sz > 79536) = true := by simp; omega
            go_wp2_with fail
            refine (known_any _).mono ?_
            rintro e w9 ⟨rfl, hB9⟩
            have HBX := Lib.hid (HD5.out.trans (hB9.mono HD5.out.size))
            clear hB9
            go_wp2
            go_ret
            exact ⟨rfl, HBX.out⟩
        · have q1 : decide (sz < 1) = false := by simp; omega
          have q2 : decide (sz > 79536) = false := by simp; omega
          have hsw : IntKind.i64.wrap (sz + 24) = sz + 24 := by rw [IntKind.wrap_i64]; omega
          have e1 : tE sz (L.set k ⟨A, n, c, ys⟩) = if jE (sz + 24) (L.set k ⟨A, n, c, ys⟩) = 0 then chkErr 1 (jR (sz + 24) (L.set k ⟨A, n, c, ys⟩)) else jE (sz + 24) (L.set k ⟨A, n, c, ys⟩) := by unfold tE; rw [if_neg hsz]
          have e2 : tR sz (L.set k ⟨A, n, c, ys⟩) = if jE (sz + 24) (L.set k ⟨A, n, c, ys⟩) = 0 then chkRes 1 (jR (sz + 24) (L.set k ⟨A, n, c, ys⟩)) else [] := by unfold tR; rw [if_neg hsz]
          have HJ := Lib.hid (fun W h => rjoin_all (sz + 24) A2 n2 c2 (L.set k ⟨A, n, c, ys⟩) W h HSW.out HYW.out)
          have hlen := jR_len (b := sz + 24) (L := (L.set k ⟨A, n, c, ys⟩)) (fun s hs => Rd.len (HRL5.out.r s hs))
          unfold JAll at HJ
          have HYJ := Lib.hid (jR_byt (b := sz + 24) HYW.out)
          rw [e1]
          rw [e2] at HR5
          clear e1 e2 hsz
          obtain ⟨E, hE⟩ : ∃ E, E = jE (sz + 24) (L.set k ⟨A, n, c, ys⟩) := ⟨_, rfl⟩
          obtain ⟨X, hX⟩ : ∃ X, X = jR (sz + 24) (L.set k ⟨A, n, c, ys⟩) := ⟨_, rfl⟩
          rw [← hE, ← hX] at HJ HR5 ⊢
          rw [← hX] at hlen HYJ
          clear hE hX
          by_cases hE0 : E = 0
          · subst hE0
            rw [if_pos rfl]
            rw [if_pos rfl] at HR5
            go_wp2_with fail
            refine (HJ.out w5 HRL5.out).mono ?_
            rintro e w6 ⟨A6, n6, c6, rfl, hR6, hB6⟩
            have hn6 : n6 ≤ 100000 := by have := hR6.len; omega
            have HR56 := Lib.hid (Rdv.below HR5.out hB6)
            have HR6 := Lib.hid hR6
            have HD6 := Lib.hid (HD5.out.trans (hB6.mono HD5.out.size))
            clear hR6 hB6
            go_wp2_with fail
            refine (rcheck_any 1 A6 n6 c6 X w6 HR6.out hn6).mono ?_
            rintro e w7 ⟨A7, n7, c7, rfl, hR7, hB7⟩
            rw [chkerr_agree 1 (fun x hx => (HYJ.out x hx).1)] at *
            rw [chkres_agree 1 (fun x hx => (HYJ.out x hx).1)] at hR7
            have HR57 := Lib.hid (Rdv.below HR56.out hB7)
            have HR7 := Lib.hid hR7
            have HD7 := Lib.hid (HD6.out.trans (hB7.mono HD6.out.size))
            clear hR7 hB7
            go_wp2_with fail
            refine (same_any A5 A7 n5 c5 n7 c7 _ _ w7 HR57.out HR7.out).mono ?_
            rintro e w8 ⟨he, q8, rfl⟩
            rw [decide_eq_true rfl] at he
            subst he
            have HD8 := Lib.hid (HD7.out.trans (Qt.below ⟨q8, rfl⟩ w.heap.size))
            go_wp2_with fail
            refine (known_any _).mono ?_
            rintro e w9 ⟨rfl, hB9⟩
            have HBX := Lib.hid (HD8.out.trans (hB9.mono HD8.out.size))
            clear hB9
            go_wp2
            go_ret
            exact ⟨rfl, HBX.out⟩
          · rw [if_neg hE0]
            rw [if_neg hE0] at HR5
            have hn5 : n5 = 0 := by have := HR5.out.len; exact this.symm
            subst hn5
            have hq : (E != 0) = true := bne_t hE0
            clear hE0
            go_wp2_with fail
            refine (HJ.out w5 HRL5.out).mono ?_
            rintro e w6 ⟨A6, n6, c6, rfl, hR6, hB6⟩
            have HD6 := Lib.hid (HD5.out.trans (hB6.mono HD5.out.size))
            clear hR6 hB6
            go_wp2_with fail
            refine (known_any _).mono ?_
            rintro e w9 ⟨rfl, hB9⟩
            have HBX := Lib.hid (HD6.out.trans (hB9.mono HD6.out.size))
            clear hB9
            go_wp2
            go_ret
            exact ⟨rfl, HBX.out⟩
    · rcases (by omega : bk < 0 ∨ (n2 : Int) ≤ bk) with hb | hb
      all_goals
        clear hin
        go_wp2_with fail
        refine (tjoin_any sz _ _ _ L _ HRL.out HS0.out).mono ?_
        rintro e w5 ⟨A5, n5, c5, rfl, hR5, hB5⟩
        have HR5 := Lib.hid hR5
        have HRL5 := Lib.hid (RL.below HRL.out hB5)
        have HD5 := Lib.hid (HB2.out.trans (hB5.mono HB2.out.size))
        clear hR5 hB5
        by_cases hsz : sz < 1 ∨ 79536 < sz
        · have e1 : tE sz L = 2 := by unfold tE; rw [if_pos hsz]
          have e2 : tR sz L = [] := by unfold tR; rw [if_pos hsz]
          rw [e1]
          rw [e2] at HR5
          have hn5 : n5 = 0 := by have := HR5.out.len; exact this.symm
          subst hn5
          clear e1 e2
          rcases hsz with hsz | hsz
          · have q1 : decide (sz < 1) = true := by simp; omega
            go_wp2_with fail
            refine (known_any _).mono ?_
            rintro e w9 ⟨rfl, hB9⟩
            have HBX := Lib.hid (HD5.out.trans (hB9.mono HD5.out.size))
            clear hB9
            go_wp2
            go_ret
            exact ⟨rfl, HBX.out⟩
          · have q1 : decide (sz < 1) = false := by simp; omega
            have q2 : decide (sz > 79536) = true := by simp; omega
            go_wp2_with fail
            refine (known_any _).mono ?_
            rintro e w9 ⟨rfl, hB9⟩
            have HBX := Lib.hid (HD5.out.trans (hB9.mono HD5.out.size))
            clear hB9
            go_wp2
            go_ret
            exact ⟨rfl, HBX.out⟩
        · have q1 : decide (sz < 1) = false := by simp; omega
          have q2 : decide (sz > 79536) = false := by simp; omega
          have hsw : IntKind.i64.wrap (sz + 24) = sz + 24 := by rw [IntKind.wrap_i64]; omega
          have e1 : tE sz L = if jE (sz + 24) L = 0 then chkErr 1 (jR (sz + 24) L) else jE (sz + 24) L := by unfold tE; rw [if_neg hsz]
          have e2 : tR sz L = if jE (sz + 24) L = 0 then chkRes 1 (jR (sz + 24) L) else [] := by unfold tR; rw [if_neg hsz]
          have HJ := Lib.hid (fun W h => rjoin_all (sz + 24) A2 n2 c2 L W h HS0.out HY0.out)
          have hlen := jR_len (b := sz + 24) (L := L) (fun s hs => Rd.len (HRL5.out.r s hs))
          unfold JAll at HJ
          have HYJ := Lib.hid (jR_byt (b := sz + 24) HY0.out)
          rw [e1]
          rw [e2] at HR5
          clear e1 e2 hsz
          obtain ⟨E, hE⟩ : ∃ E, E = jE (sz + 24) L := ⟨_, rfl⟩
          obtain ⟨X, hX⟩ : ∃ X, X = jR (sz + 24) L := ⟨_, rfl⟩
          rw [← hE, ← hX] at HJ HR5 ⊢
          rw [← hX] at hlen HYJ
          clear hE hX
          by_cases hE0 : E = 0
          · subst hE0
            rw [if_pos rfl]
            rw [if_pos rfl] at HR5
            go_wp2_with fail
            refine (HJ.out w5 HRL5.out).mono ?_
            rintro e w6 ⟨A6, n6, c6, rfl, hR6, hB6⟩
            have hn6 : n6 ≤ 100000 := by have := hR6.len; omega
            have HR56 := Lib.hid (Rdv.below HR5.out hB6)
            have HR6 := Lib.hid hR6
            have HD6 := Lib.hid (HD5.out.trans (hB6.mono HD5.out.size))
            clear hR6 hB6
            go_wp2_with fail
            refine (rcheck_any 1 A6 n6 c6 X w6 HR6.out hn6).mono ?_
            rintro e w7 ⟨A7, n7, c7, rfl, hR7, hB7⟩
            rw [chkerr_agree 1 (fun x hx => (HYJ.out x hx).1)] at *
            rw [chkres_agree 1 (fun x hx => (HYJ.out x hx).1)] at hR7
            have HR57 := Lib.hid (Rdv.below HR56.out hB7)
            have HR7 := Lib.hid hR7
            have HD7 := Lib.hid (HD6.out.trans (hB7.mono HD6.out.size))
            clear hR7 hB7
            go_wp2_with fail
            refine (same_any A5 A7 n5 c5 n7 c7 _ _ w7 HR57.out HR7.out).mono ?_
            rintro e w8 ⟨he, q8, rfl⟩
            rw [decide_eq_true rfl] at he
            subst he
            have HD8 := Lib.hid (HD7.out.trans (Qt.below ⟨q8, rfl⟩ w.heap.size))
            go_wp2_with fail
            refine (known_any _).mono ?_
            rintro e w9 ⟨rfl, hB9⟩
            have HBX := Lib.hid (HD8.out.trans (hB9.mono HD8.out.size))
            clear hB9
            go_wp2
            go_ret
            exact ⟨rfl, HBX.out⟩
          · rw [if_neg hE0]
            rw [if_neg hE0] at HR5
            have hn5 : n5 = 0 := by have := HR5.out.len; exact this.symm
            subst hn5
            have hq : (E != 0) = true := bne_t hE0
            clear hE0
            go_wp2_with fail
            refine (HJ.out w5 HRL5.out).mono ?_
            rintro e w6 ⟨A6, n6, c6, rfl, hR6, hB6⟩
            have HD6 := Lib.hid (HD5.out.trans (hB6.mono HD5.out.size))
            clear hR6 hB6
            go_wp2_with fail
            refine (known_any _).mono ?_
            rintro e w9 ⟨rfl, hB9⟩
            have HBX := Lib.hid (HD6.out.trans (hB9.mono HD6.out.size))
            clear hB9
            go_wp2
            go_ret
            exact ⟨rfl, HBX.out⟩
end Go.Proofs.Ytcbbkflnenkpgaa

