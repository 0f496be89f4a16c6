/- Bundle. Conditions: none. -/
import Derived.Test.YtkdfefpnhaebfaaGreatBuoaz
import Derived.Laws.BytesArg
set_option linter.unusedVariables false
set_option linter.unusedSimpArgs false
namespace Go.Proofs.YtkdfefpnhaebfaaGreat.Cr
open Go.RowKit
set_option maxRecDepth 100000
set_option maxHeartbeats 1000000
theorem lv55 {W : World} {b : Nat} {A : Option Addr} {n c : Nat} (h : W.cell? ⟨b, 0, none⟩ = some (.slice A n c)) : (loadVar 56 ⟨b, 0, none⟩).run Tryz.prog W = .ok (.slice A n c) W := by
 simp [go_sem, h]
theorem lv53 {W : World} {b : Nat} {A : Option Addr} {n c : Nat} (h : W.cell? ⟨b, 0, none⟩ = some (.slice A n c)) : (loadVar 28 ⟨b, 0, none⟩).run Tryz.prog W = .ok (.slice A n c) W := by
 simp [go_sem, h]
theorem splitc1_any (p : Nat) (v : Value) (w : World) (h : Blk w p 56 [v]) : Calls Tryz.prog 97 #[.pointer (some ⟨p, 0, none⟩)] w fun e w' => e = .returned (.tuple #[]) ∧ (Blk w' p 56 [.slice none 0 0] ∧ w.grownBy w' (some p)) := by
 have d0 := h.cell (j := 0) rfl
 have g0 := h.frozen 0
 have hF := h.set 0 (.slice none 0 0)
 have HF := Lib.hid hF
 clear hF
 go_enter Tryz.func97, Tryz.ntmps97
 go_wp2
 go_end0
 exact ⟨rfl, HF.out, grownBy_set _ _ _ _⟩
theorem joinc1_any (p : Nat) (v : Value) (w : World) (h : Blk w p 28 [v]) : Calls Tryz.prog 181 #[.pointer (some ⟨p, 0, none⟩)] w fun e w' => e = .returned (.tuple #[]) ∧ (Blk w' p 28 [.slice none 0 0] ∧ w.grownBy w' (some p)) := by
 have d0 := h.cell (j := 0) rfl
 have g0 := h.frozen 0
 have hF := h.set 0 (.slice none 0 0)
 have HF := Lib.hid hF
 clear hF
 go_enter Tryz.func181, Tryz.ntmps181
 go_wp2
 go_end0
 exact ⟨rfl, HF.out, grownBy_set _ _ _ _⟩
def SpBad (k : Int) (w : World) (e : Ending) (w' : World) : Prop := e = .returned (.tuple #[.slice none 0 0, .int .i64 k]) ∧ Below w.heap.size w w'
theorem split_end (w w1 : World) (TB EB : Nat) (k : Int) (hT : Blk w1 TB 56 [.slice none 0 0]) (hE : Blk w1 EB 24 [.int .i64 0]) (hB : Below w.heap.size w w1) (hT0 : w.heap.size ≤ TB) (hE0 : w.heap.size ≤ EB) (hne : EB ≠ TB) (ts : Array Value) (h2 : ts.getD 2 undef = .pointer (some ⟨TB, 0, none⟩)) (h3 : ts.getD 3 undef = .pointer (some ⟨EB, 0, none⟩)) :
 Leaves Tryz.prog Tryz.f57 ts (SpBad k w) [{ target := .fn (.func 51) #[], args := #[.pointer (some ⟨EB, 0, none⟩), .func (.func 97) #[] #[.pointer (some ⟨TB, 0, none⟩)]] }] (.panicking (pan k)) w1 := by
 refine leaves_cons (f := 51) (args := #[.pointer (some ⟨EB, 0, none⟩), .func (.func 97) #[] #[.pointer (some ⟨TB, 0, none⟩)]]) (by simp) (by simp [go_sem]) ?_
 refine (caught_pan65 ⟨EB, 0, none⟩ _ k _ (fun W => Blk W TB 56 [.slice none 0 0] ∧ w1.grownBy W (some TB)) (splitc1_any TB _ w1 hT) (fun W hW => ?_)).mono ?_
 · have hE2 := hE.grown hW.2 (by intro he; exact hne (Option.some.inj he))
   exact ⟨⟨_, hE2.cell (j := 0) rfl⟩, hE2.frozen 0⟩
 rintro e u' w'' ⟨rfl, rfl, W2, hW2, rfl⟩
 have hE2 := hE.grown hW2.2 (by intro he; exact hne (Option.some.inj he))
 have l1 := lv55 ((hW2.1.other (g := EB) hne 0 (.int .i64 k)).cell (j := 0) (v := .slice none 0 0) rfl)
 have l2 := lv24 ((hE2.set 0 (.int .i64 k)).cell (j := 0) (v := .int .i64 k) rfl)
 have hBe := (hB.grown hW2.2 hB.size (fun k hk => by cases hk; exact hT0)).setCell (p := ⟨EB, 0, none⟩) hE0 (.int .i64 k)
 have HBE := Lib.hid hBe
 clear hBe hW2 hE2 hE hT hB
 have h2' : ts[2]?.getD undef = .pointer (some ⟨TB, 0, none⟩) := by simpa using h2
 have h3' : ts[3]?.getD undef = .pointer (some ⟨EB, 0, none⟩) := by simpa using h3
 simp [Leaves, settle, results, Tryz.results57, h2', h3', asAddr, l1, l2, Sem.run_bind, Result.andThen]
 exact ⟨rfl, HBE.out⟩
theorem split_bad (A : Option Addr) (n c : Nat) (w : World) (h : n < 1 ∨ 79560 < n) : Calls Tryz.prog 57 #[.slice A n c] w (SpBad 2 w) := by
 have hmf : ∀ (fn : Fn) (first cap : Array Value) (w : World), (Instr.makeFunc fn first cap).run Tryz.prog w = .ok (.func fn first cap) w := fun _ _ _ _ => rfl
 have HH := Lib.hid h
 clear h
 have hT0 : Blk ((w.alloc (.cells #[.slice none 0 0] 56)).alloc (.cells #[.int .i64 0] 24)) w.heap.size 56 [.slice none 0 0] := (Blk.new w [.slice none 0 0] 56 rfl).alloc _
 have hE0 : Blk ((w.alloc (.cells #[.slice none 0 0] 56)).alloc (.cells #[.int .i64 0] 24)) (w.heap.size + 1) 24 [.int .i64 0] := Blk.new _ [.int .i64 0] 24 (by simp)
 have hB0 : Below w.heap.size w ((w.alloc (.cells #[.slice none 0 0] 56)).alloc (.cells #[.int .i64 0] 24)) := ((Below.refl _ _).alloc (Nat.le_refl _) _).alloc (by simp) _
 go_enter_defers Tryz.func57, Tryz.ntmps57
 go_wp2_with fail
 generalize (w.alloc (.cells #[.slice none 0 0] 56)).alloc (.cells #[.int .i64 0] 24) = W at *
 refine (plan_bad n W (by have := HH.out; omega)).mono ?_
 rintro e w1 ⟨rfl, hB1⟩
 exact split_end w w1 w.heap.size (w.heap.size + 1) 2 (hT0.below hB1) (hE0.below hB1) (hB0.trans (hB1.mono hB0.size)) (Nat.le_refl _) (by omega) (by omega) _ rfl rfl
theorem split_bit (A : Option Addr) (n c : Nat) (xs : List Int) (w : World) (hx : Rd .u8 w A n c xs) (h1 : 1 ≤ n) (h2 : n ≤ 79560) (hv : ValidB xs = false) : Calls Tryz.prog 57 #[.slice A n c] w (SpBad 3 w) := by
 have hmf : ∀ (fn : Fn) (first cap : Array Value) (w : World), (Instr.makeFunc fn first cap).run Tryz.prog w = .ok (.func fn first cap) w := fun _ _ _ _ => rfl
 have hT0 : Blk ((w.alloc (.cells #[.slice none 0 0] 56)).alloc (.cells #[.int .i64 0] 24)) w.heap.size 56 [.slice none 0 0] := (Blk.new w [.slice none 0 0] 56 rfl).alloc _
 have hE0 : Blk ((w.alloc (.cells #[.slice none 0 0] 56)).alloc (.cells #[.int .i64 0] 24)) (w.heap.size + 1) 24 [.int .i64 0] := Blk.new _ [.int .i64 0] 24 (by simp)
 have hB0 : Below w.heap.size w ((w.alloc (.cells #[.slice none 0 0] 56)).alloc (.cells #[.int .i64 0] 24)) := ((Below.refl _ _).alloc (Nat.le_refl _) _).alloc (by simp) _
 go_enter_defers Tryz.func57, Tryz.ntmps57
 go_wp2_with fail
 generalize (w.alloc (.cells #[.slice none 0 0] 56)).alloc (.cells #[.int .i64 0] 24) = W at *
 refine (plan_ok n W h1 h2).mono ?_
 rintro e w1 ⟨rfl, hB1⟩
 have hx1 := Rdv.below (Rdv.below hx hB0) (hB1.mono (Nat.le_refl _))
 have HT := Lib.hid (hT0.below hB1)
 have HE := Lib.hid (hE0.below hB1)
 have HB := Lib.hid (hB0.trans (hB1.mono hB0.size))
 clear hT0 hE0 hB0 hB1 hx
 unfold LY
 simp only [ints8, List.map_cons, List.map_nil]
 have hb := Lib.hid (fun o => binary_any A n c xs (w1.alloc o) (Rdv.alloc hx1 o))
 rw [hv] at hb
 go_wp2_with (first
  | (go_at_call 98; refine (hb.out _).mono ?_; rintro e w' ⟨rfl, rfl⟩)
  | (go_at_call 91; refine (must_bad _ _).mono ?_; rintro e w' ⟨rfl, rfl⟩))
 exact split_end w _ w.heap.size (w.heap.size + 1) 3 (HT.out.alloc _) (HE.out.alloc _) (bal HB.out _) (Nat.le_refl _) (by omega) (by omega) _ rfl rfl
def SpPost (n : Nat) (xs : List Int) (w : World) (e : Ending) (w' : World) : Prop := ∃ A' c' L, e = .returned (.tuple #[.slice A' L.length c', .int .i64 0]) ∧ BL w' w.heap.size A' c' L ∧ L.map (·.xs) = segs n (List.replicate (fi n) 0 ++ xs) (bC n) ∧ Below w.heap.size w w'
theorem split_ok (A : Option Addr) (n c : Nat) (xs : List Int) (w : World) (hx : Rd .u8 w A n c xs) (h1 : 1 ≤ n) (h2 : n ≤ 79560) (hv : ValidB xs = true) : Calls Tryz.prog 57 #[.slice A n c] w (SpPost n xs w) := by
 have hmf : ∀ (fn : Fn) (first cap : Array Value) (w : World), (Instr.makeFunc fn first cap).run Tryz.prog w = .ok (.func fn first cap) w := fun _ _ _ _ => rfl
 have hfl := fi_lt h1 h2
 have hT0 : Blk ((w.alloc (.cells #[.slice none 0 0] 56)).alloc (.cells #[.int .i64 0] 24)) w.heap.size 56 [.slice none 0 0] := (Blk.new w [.slice none 0 0] 56 rfl).alloc _
 have hE0 : Blk ((w.alloc (.cells #[.slice none 0 0] 56)).alloc (.cells #[.int .i64 0] 24)) (w.heap.size + 1) 24 [.int .i64 0] := Blk.new _ [.int .i64 0] 24 (by simp)
 have hB0 : Below w.heap.size w ((w.alloc (.cells #[.slice none 0 0] 56)).alloc (.cells #[.int .i64 0] 24)) := ((Below.refl _ _).alloc (Nat.le_refl _) _).alloc (by simp) _
 go_enter_defers Tryz.func57, Tryz.ntmps57
 go_wp2_with fail
 generalize (w.alloc (.cells #[.slice none 0 0] 56)).alloc (.cells #[.int .i64 0] 24) = W at *
 refine (plan_ok n W h1 h2).mono ?_
 rintro e w1 ⟨rfl, hB1⟩
 have hx1 := Rdv.below (Rdv.below hx hB0) (hB1.mono (Nat.le_refl _))
 have HT := Lib.hid (hT0.below hB1)
 have HE := Lib.hid (hE0.below hB1)
 have HB := Lib.hid (hB0.trans (hB1.mono hB0.size))
 clear hT0 hE0 hB0 hB1 hx
 have hL := Blk.new w1 (ints8 (LY n)) 110 rfl
 obtain ⟨R, hR⟩ : ∃ R, R = (los n : Int) := ⟨_, rfl⟩
 unfold LY at hL ⊢
 simp only [ints8, List.map_cons, List.map_nil] at hL ⊢
 have HX := Lib.hid (Rdv.alloc hx1 (.cells #[.int .i64 n, .int .i64 (bC n : Int), .int .i64 (lo n : Int), .int .i64 (sh n : Int), .int .i64 (los n : Int), .int .i64 (shs n : Int), .int .i64 (fi n : Int)] 110))
 have HT := Lib.hid (HT.out.alloc (.cells #[.int .i64 n, .int .i64 (bC n : Int), .int .i64 (lo n : Int), .int .i64 (sh n : Int), .int .i64 (los n : Int), .int .i64 (shs n : Int), .int .i64 (fi n : Int)] 110))
 have HE := Lib.hid (HE.out.alloc (.cells #[.int .i64 n, .int .i64 (bC n : Int), .int .i64 (lo n : Int), .int .i64 (sh n : Int), .int .i64 (los n : Int), .int .i64 (shs n : Int), .int .i64 (fi n : Int)] 110))
 have HB := Lib.hid (bal HB.out (.cells #[.int .i64 n, .int .i64 (bC n : Int), .int .i64 (lo n : Int), .int .i64 (sh n : Int), .int .i64 (los n : Int), .int .i64 (shs n : Int), .int .i64 (fi n : Int)] 110))
 have hx1s := hx1.le
 clear hx1
 go_wp2_with fail
 generalize w1.alloc (.cells #[.int .i64 n, .int .i64 (bC n : Int), .int .i64 (lo n : Int), .int .i64 (sh n : Int), .int .i64 (los n : Int), .int .i64 (shs n : Int), .int .i64 (fi n : Int)] 110) = W1 at *
 generalize w1.heap.size = LB at *
 refine (binary_any A n c xs W1 HX.out).mono ?_
 rintro e w' ⟨rfl, rfl⟩
 rw [hv]
 obtain ⟨⟨c0, c1, c2, c3, c4, c5, c6⟩, -⟩ := Blk.seven hL
 have HL := Lib.hid hL
 clear hL
 go_wp2_with (first
  | (go_at_call 91; refine (must_ok _ _).mono ?_; rintro e w' ⟨rfl, rfl⟩)
  | (at_make; refine list_of rfl fun K hK => wp_mk _ _ 28 rfl el53 rfl rfl (by omega) (by unfold maxLen; omega) ?_; intro Az w2 hOz hBz hAz; have HOZ := Lib.hid hOz; have HBZ := Lib.hid hBz; clear hOz hBz; refine hK _ _ ?_; clear hK K)
  | (at_builtin; refine list_of rfl fun K hK => wp_app _ _ 28 rfl el53 rfl rfl HOZ.out (Rdv.below HX.out HBZ.out) (oneCell_ints .u8 xs) (by omega) (by unfold maxLen; omega) HBZ.out.size ?_; intro Ar cr w3 hOr hgr; have HOR := Lib.hid hOr; have HGR := Lib.hid hgr; have hB3 := HBZ.out.grown hgr HBZ.out.size (fun k hk => Ownv.ob' HOZ.out hk); have hL3 := (HL.out.below hB3).alloc (.cells #[.slice Ar (fi n + n) cr] 28); obtain ⟨⟨c0', c1', c2', c3', c4', c5', c6'⟩, -⟩ := Blk.seven hL3; have HB3 := Lib.hid hB3; clear hOr hgr hB3; refine hK _ _ ?_; clear hK K))
 have hR3 : Blk (w3.alloc (.cells #[.slice Ar (fi n + n) cr] 28)) w3.heap.size 28 [.slice Ar (fi n + n) cr] := Blk.new w3 [.slice Ar (fi n + n) cr] 28 rfl
 have hO3 : Own .u8 5 (w3.alloc (.cells #[.slice Ar (fi n + n) cr] 28)) W1.heap.size Ar (fi n + n) cr (List.replicate (fi n) 0 ++ xs) := Own.of_eq (HOR.out.alloc _) rfl (by rw [List.map_append, List.map_replicate])
 have hAR : Ar ≠ none → blk Ar ≠ w3.heap.size := fun hA => Nat.ne_of_lt (Ownv.blk_of HOR.out hA).2
 have hvz : ValidB (List.replicate (fi n) 0 ++ xs) = true := by
  unfold ValidB at *
  rw [List.all_append, hv]; simp
 have HT4 := Lib.hid (Blk.alloc (HT.out.below HB3.out) (.cells #[.slice Ar (fi n + n) cr] 28))
 have HE4 := Lib.hid (Blk.alloc (HE.out.below HB3.out) (.cells #[.slice Ar (fi n + n) cr] 28))
 have HB4 := Lib.hid (bal (HB.out.trans (HB3.out.mono HB.out.size)) (.cells #[.slice Ar (fi n + n) cr] 28))
 have htlt := HT.out.lt
 have helt := HE.out.lt
 have hs3 := HB3.out.size
 have hs4 : w3.heap.size < (w3.alloc (.cells #[.slice Ar (fi n + n) cr] 28)).heap.size := by simp
 have hws := HB.out.size
 generalize w3.alloc (.cells #[.slice Ar (fi n + n) cr] 28) = W4 at *
 clear c0 c1 c2 c3 c4 c5 c6 c0' c1' c2' c3' c4' c5' c6'
 refine (built_any n LB w3.heap.size Ar (fi n + n) cr _ W4 h1 h2 (by omega) hL3 hR3 (Own.rd hO3) hAR hvz).mono ?_
 rintro e w5 ⟨A', c', L, rfl, hBL, hxs, hG5⟩
 have hT5 := HT4.out.grown hG5 (fun he => by have := Option.some.inj he; omega)
 have hE5 := HE4.out.grown hG5 (fun he => by have := Option.some.inj he; omega)
 have HB5 := Lib.hid (HB4.out.grown hG5 HB4.out.size (fun k hk => by cases hk; omega))
 have HBL := Lib.hid hBL
 have HXS := Lib.hid hxs
 clear hBL hxs hL3 hR3 hO3 hAR hG5
 obtain ⟨TB, hTB⟩ : ∃ TB, TB = w.heap.size := ⟨_, rfl⟩
 obtain ⟨EB, hEB⟩ : ∃ EB, EB = w.heap.size + 1 := ⟨_, rfl⟩
 rw [← hEB] at hE5 ⊢
 rw [← hTB] at hT5 ⊢
 have hne : TB ≠ EB := by omega
 have hne' : EB ≠ TB := by omega
 have hT0 : w.heap.size ≤ TB := by omega
 have hE0 : w.heap.size ≤ EB := by omega
 have hT4 : TB < W4.heap.size := by omega
 have hE4 : EB < W4.heap.size := by omega
 clear hTB hEB
 have t0 := hT5.cell (j := 0) rfl
 have t1 := hT5.frozen 0
 have e0 := hE5.cell (j := 0) rfl
 have e1 := hE5.frozen 0
 go_wp2
 have hT6 := (hT5.set 0 (.slice A' L.length c')).other (g := EB) hne' 0 (.int .i64 0)
 have hE6 := (hE5.other (g := TB) hne 0 (.slice A' L.length c')).set 0 (.int .i64 0)
 have hBL6 := (HBL.out.grownL hT4 (grownBy_set w5 TB 0 (.slice A' L.length c'))).grownL hE4 (grownBy_set _ EB 0 (.int .i64 0))
 have hB6 := (HB5.out.setCell (p := ⟨TB, 0, none⟩) hT0 (.slice A' L.length c')).setCell (p := ⟨EB, 0, none⟩) hE0 (.int .i64 0)
 have HT6 := Lib.hid hT6
 have HE6 := Lib.hid hE6
 have HBL6 := Lib.hid (hBL6.mono (base' := w.heap.size) (by omega))
 have HB6 := Lib.hid hB6
 clear hT6 hE6 hBL6 hB6 t0 t1 e0 e1 hT5 hE5
 generalize (w5.setCell ⟨TB, 0, none⟩ (.slice A' L.length c')).setCell ⟨EB, 0, none⟩ (.int .i64 0) = W6 at *
 refine leaves_cons (f := 51) (args := #[.pointer (some ⟨EB, 0, none⟩), .func (.func 97) #[] #[.pointer (some ⟨TB, 0, none⟩)]]) (by simp) (by simp [go_sem]) ?_
 refine (caught_idle ⟨EB, 0, none⟩ _ _).mono ?_
 rintro e u' w'' ⟨rfl, rfl, rfl⟩
 have l1 := lv55 (HT6.out.cell (j := 0) rfl)
 have l2 := lv24 (HE6.out.cell (j := 0) rfl)
 simp [Leaves, settle, results, Tryz.results57, asAddr, l1, l2, Sem.run_bind, Result.andThen]
 exact ⟨A', c', L, rfl, HBL6.out, HXS.out, HB6.out⟩
open CM
theorem bit_drop {xs : List Int} (n : Nat) (hx : Bit xs) : Bit (xs.drop n) := fun x h => hx x (List.mem_of_mem_drop h)
structure RL (w : World) (A : Option Addr) (n c : Nat) (L : List Sv) : Prop where
 o : Rdv w A n c (L.map Sv.v)
 r : ∀ s ∈ L, Rd .u8 w s.A s.n s.c s.xs
theorem BL.rl {w : World} {base c : Nat} {A : Option Addr} {L : List Sv} (h : BL w base A c L) : RL w A L.length c L := ⟨h.o.rd, fun s hs => Own.rd (h.r s hs).1⟩
theorem RL.len {w : World} {A : Option Addr} {n c : Nat} {L : List Sv} (h : RL w A n c L) : L.length = n := by have := h.o.len; simpa using this
theorem RL.below {w w' : World} {A : Option Addr} {n c : Nat} {L : List Sv} (h : RL w A n c L) (hB : Below w.heap.size w w') : RL w' A n c L := ⟨Rdv.below h.o hB, fun s hs => Rdv.below (h.r s hs) hB⟩
theorem RL.get {w : World} {A : Option Addr} {n c : Nat} {L : List Sv} (h : RL w A n c L) {j : Nat} (hj : j < n) : ∃ s, L[j]? = some s ∧ w.cell? (adr A j) = some (.slice s.A s.n s.c) ∧ Rd .u8 w s.A s.n s.c s.xs := by
 have hl := h.len
 have hj' : j < L.length := by omega
 exact ⟨L[j], List.getElem?_eq_getElem hj', h.o.at_ j _ (by simp [hj', Sv.v]), h.r _ (List.getElem_mem hj')⟩
def Byt (xs : List Int) : Prop := ∀ x ∈ xs, 0 ≤ x ∧ x < 256
theorem byt_bit {xs : List Int} (h : Bit xs) : Byt xs := fun x hx => by rcases h x hx with rfl | rfl <;> decide
end Go.Proofs.YtkdfefpnhaebfaaGreat.Cr
