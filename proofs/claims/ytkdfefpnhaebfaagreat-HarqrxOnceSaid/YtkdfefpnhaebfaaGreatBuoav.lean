/- Bundle. Conditions: none. -/
import Derived.Test.YtkdfefpnhaebfaaGreatBuoat
import Derived.Test.YtkdfefpnhaebfaaGreatBuoau
set_option linter.unusedVariables false
set_option linter.unusedSimpArgs false
namespace Go.Proofs.YtkdfefpnhaebfaaGreat
open Go.RowKit
attribute [local go_sem] Oper.semAt_some
set_option maxRecDepth 100000
set_option maxHeartbeats 1000000
theorem below_grown {w w1 w2 : World} {D : Nat} (h : Below w.heap.size w w1) (hg : w1.grownBy w2 (some D)) : w.grownBy w2 (some D) :=
 ⟨hg.os.trans h.os, hg.tape.trans h.tape, hg.output.trans h.output, Nat.le_trans h.size hg.size, fun j hj hne => (hg.block j (Nat.lt_of_lt_of_le hj h.size) hne).trans (h.block j hj)⟩
theorem agrees_any {D k : Nat} {vs a bs : List Int} {h : Nat} {V : Option Addr} {vc : Nat} {O : Option Addr} {oc : Nat} {I : Option Addr} {ic : Nat} {A : Option Addr} {ac : Nat} {B : Option Addr} {bn bc : Nat} (R : Option Addr) (rn rc : Nat) (xs : List Int) (w : World) (hs : DS w D k vs a bs h V vc O oc I ic A ac B bn bc) (hr : Rd .u8 w R rn rc xs) (hh : h ≤ 100000) :
 Calls Tryz.prog 178 #[.pointer (some ⟨D, 0, none⟩), .slice R rn rc] w fun e w' => e = .returned (.bool (decide (2 ≤ h) && decide (xs = bs))) ∧ Below w.heap.size w w' := by
 have k5 := hs.b.cell (j := 5) (v := .int .i64 (h : Int)) rfl
 have k4 := hs.b.cell (j := 4) (v := .slice B bn bc) rfl
 have HEQ := Lib.hid (Cr.equal_any R B rn rc bn bc xs bs w hr hs.p)
 clear hs hr
 by_cases h2 : 2 ≤ h
 · have q : decide ((h : Int) ≥ 2) = true := by simp; omega
   rw [decide_eq_true h2, Bool.true_and]
   clear h2
   generalize decide (xs = bs) = p at *
   go_enter Tryz.func178, Tryz.ntmps178
   go_wp2_with fail
   refine HEQ.out.mono ?_
   rintro e w1 ⟨rfl, q1, rfl⟩
   go_wp2
   go_ret
   exact ⟨rfl, Qt.below ⟨q1, rfl⟩ _⟩
 · have q : decide ((h : Int) ≥ 2) = false := by simp; omega
   rw [decide_eq_false h2, Bool.false_and]
   clear h2
   go_enter Tryz.func178, Tryz.ntmps178
   go_wp2
   go_ret
   exact ⟨rfl, Below.refl _ _⟩
theorem pass1_any {D k : Nat} {vs a bs : List Int} {h : Nat} {V : Option Addr} {vc : Nat} {O : Option Addr} {oc : Nat} {I : Option Addr} {ic : Nat} {A : Option Addr} {ac : Nat} {B : Option Addr} {bn bc : Nat} (b3 b4 : Nat) (R : Option Addr) (rn rc : Nat) (xs : List Int) (w : World) (hs : DS w D k vs a bs h V vc O oc I ic A ac B bn bc) (hr : Rd .u8 w R rn rc xs) (hh : h ≤ 100000) (h3 : Blk w b3 186 [.pointer (some ⟨D, 0, none⟩)]) (h4 : Blk w b4 28 [.slice R rn rc]) :
 Calls Tryz.prog 177 #[.pointer (some ⟨b3, 0, none⟩), .pointer (some ⟨b4, 0, none⟩)] w fun e w' => e = .returned (.bool (decide (2 ≤ h) && decide (xs = bs))) ∧ Below w.heap.size w w' := by
 have HAG := Lib.hid (agrees_any R rn rc xs w hs hr hh)
 have k3 := h3.cell (j := 0) (v := .pointer (some ⟨D, 0, none⟩)) rfl
 have k4 := h4.cell (j := 0) (v := .slice R rn rc) rfl
 clear hs hr h3 h4
 generalize (decide (2 ≤ h) && decide (xs = bs)) = p at *
 go_enter Tryz.func177, Tryz.ntmps177
 go_wp2_with fail
 refine HAG.out.mono ?_
 rintro e w1 ⟨rfl, hB⟩
 go_wp2
 go_ret
 exact ⟨rfl, hB⟩
theorem pass2_any (b5 b4 : Nat) (kind : Int) (R : Option Addr) (rn rc : Nat) (xs : List Int) (w : World) (hr : Rd .u8 w R rn rc xs) (hn : rn ≤ 100000) (h5 : Blk w b5 117 [.int .i64 kind]) (h4 : Blk w b4 28 [.slice R rn rc]) :
 Calls Tryz.prog 179 #[.pointer (some ⟨b5, 0, none⟩), .pointer (some ⟨b4, 0, none⟩)] w fun e w' => e = .returned (.bool (decide (Cr.chkErr kind xs = 0))) ∧ Below w.heap.size w w' := by
 have HCK := Lib.hid (Cr.check_any kind R rn rc xs w hr hn)
 have k5 := h5.cell (j := 0) (v := .int .i64 kind) rfl
 have k4 := h4.cell (j := 0) (v := .slice R rn rc) rfl
 clear hr h5 h4
 by_cases hE : Cr.chkErr kind xs = 0
 · rw [decide_eq_true hE]
   rw [hE] at HCK
   clear hE
   go_enter Tryz.func179, Tryz.ntmps179
   go_wp2_with fail
   refine HCK.out.mono ?_
   rintro e w1 ⟨A', n', c', rfl, hO, hB⟩
   clear hO
   go_wp2
   go_ret
   exact ⟨rfl, hB⟩
 · rw [decide_eq_false hE]
   have q : (Cr.chkErr kind xs == 0) = false := beq_f hE
   generalize Cr.chkErr kind xs = E at *
   clear hE
   go_enter Tryz.func179, Tryz.ntmps179
   go_wp2_with fail
   refine HCK.out.mono ?_
   rintro e w1 ⟨A', n', c', rfl, hO, hB⟩
   clear hO
   go_wp2
   go_ret
   exact ⟨rfl, hB⟩
theorem passes0_any {D k : Nat} {vs a bs : List Int} {h : Nat} {V : Option Addr} {vc : Nat} {O : Option Addr} {oc : Nat} {I : Option Addr} {ic : Nat} {A : Option Addr} {ac : Nat} {B : Option Addr} {bn bc : Nat} (R : Option Addr) (rn rc : Nat) (xs : List Int) (w : World) (hs : DS w D k vs a bs h V vc O oc I ic A ac B bn bc) (hr : Rd .u8 w R rn rc xs) (hrn : R ≠ none → blk R ≠ D) (hh : h ≤ 100000) (hn : rn ≤ 100000) :
 Calls Tryz.prog 124 #[.pointer (some ⟨D, 0, none⟩), .slice R rn rc, .int .i64 0] w fun e w' => e = .returned (.bool (decide (2 ≤ h) && decide (xs = bs))) ∧ DS w' D k vs a xs h V vc O oc I ic A ac R rn rc ∧ w.grownBy w' (some D) := by
 have hD := hs.b.lt
 have HB0 : Hid (Below w.heap.size w ((((w.alloc (.cells #[.pointer (some ⟨D, 0, none⟩)] 186)).alloc (.cells #[.slice R rn rc] 28)).alloc (.cells #[.int .i64 0] 117)).alloc (.cells #[.nilFunc, .nilFunc] 236))) := Lib.hid (((((Below.refl _ w).alloc (Nat.le_refl _) _).alloc (by simp) _).alloc (by simp; omega) _).alloc (by simp; omega) _)
 have hL0 : Blk ((((w.alloc (.cells #[.pointer (some ⟨D, 0, none⟩)] 186)).alloc (.cells #[.slice R rn rc] 28)).alloc (.cells #[.int .i64 0] 117)).alloc (.cells #[.nilFunc, .nilFunc] 236)) (w.heap.size + 1 + 1 + 1) 236 [.nilFunc, .nilFunc] := Blk.new (((w.alloc (.cells #[.pointer (some ⟨D, 0, none⟩)] 186)).alloc (.cells #[.slice R rn rc] 28)).alloc (.cells #[.int .i64 0] 117)) [.nilFunc, .nilFunc] 236 (by simp)
 have H3 : Hid (Blk ((((w.alloc (.cells #[.pointer (some ⟨D, 0, none⟩)] 186)).alloc (.cells #[.slice R rn rc] 28)).alloc (.cells #[.int .i64 0] 117)).alloc (.cells #[.nilFunc, .nilFunc] 236)) w.heap.size 186 [.pointer (some ⟨D, 0, none⟩)]) := Lib.hid ((((Blk.new w [.pointer (some ⟨D, 0, none⟩)] 186 rfl).alloc _).alloc _).alloc _)
 have H4 : Hid (Blk ((((w.alloc (.cells #[.pointer (some ⟨D, 0, none⟩)] 186)).alloc (.cells #[.slice R rn rc] 28)).alloc (.cells #[.int .i64 0] 117)).alloc (.cells #[.nilFunc, .nilFunc] 236)) (w.heap.size + 1) 28 [.slice R rn rc]) := Lib.hid (((Blk.new (w.alloc (.cells #[.pointer (some ⟨D, 0, none⟩)] 186)) [.slice R rn rc] 28 (by simp)).alloc _).alloc _)
 have H5 : Hid (Blk ((((w.alloc (.cells #[.pointer (some ⟨D, 0, none⟩)] 186)).alloc (.cells #[.slice R rn rc] 28)).alloc (.cells #[.int .i64 0] 117)).alloc (.cells #[.nilFunc, .nilFunc] 236)) (w.heap.size + 1 + 1) 117 [.int .i64 0]) := Lib.hid ((Blk.new ((w.alloc (.cells #[.pointer (some ⟨D, 0, none⟩)] 186)).alloc (.cells #[.slice R rn rc] 28)) [.int .i64 0] 117 (by simp)).alloc _)
 have HS := Lib.hid hs
 have HR := Lib.hid hr
 clear hs hr
 go_enter Tryz.func124, Tryz.ntmps124
 go_wp2_with (refine strow (cs := [.func (.func 177) #[] #[.pointer (some ⟨w.heap.size, 0, none⟩), .pointer (some ⟨w.heap.size + 1, 0, none⟩)], .func (.func 179) #[] #[.pointer (some ⟨w.heap.size + 1 + 1, 0, none⟩), .pointer (some ⟨w.heap.size + 1, 0, none⟩)]]) rfl 236 (.tmp 7) (.tmp 11) rfl rfl rfl hL0 rfl (by kernel_rfl) (by simp [Value.oneCell']) ?_
              intro W5 g1 g2
              have HA := Lib.hid g1
              have HB3 := Lib.hid (H3.out.grown g2 (by simp; omega))
              have HB4 := Lib.hid (H4.out.grown g2 (by simp))
              have HB5 := Lib.hid (H5.out.grown g2 (by simp))
              have HBW := Lib.hid (HB0.out.grown g2 HB0.out.size (fun j e => by cases e; omega))
              have HDS5 := Lib.hid (DS.below HS.out HBW.out)
              have HR5 := Lib.hid (Rdv.below HR.out HBW.out)
              have k5 := HB5.out.cell (j := 0) (v := .int .i64 0) rfl
              have kf : W5.cell? ⟨w.heap.size + 1 + 1 + 1, 0, none⟩ = some (.func (.func 177) #[] #[.pointer (some ⟨w.heap.size, 0, none⟩), .pointer (some ⟨w.heap.size + 1, 0, none⟩)]) := HA.out.cell rfl
              clear g1 g2 hL0 H3 H4 H5 HB0)
 refine (pass1_any w.heap.size (w.heap.size + 1) R rn rc xs W5 HDS5.out HR5.out hh HB3.out HB4.out).mono ?_
 rintro e w6 ⟨rfl, hB6⟩
 have HD6 := Lib.hid (DS.below HDS5.out hB6)
 have HR6 := Lib.hid (Rdv.below HR5.out hB6)
 have k63 := (HB3.out.below hB6).cell (j := 0) (v := .pointer (some ⟨D, 0, none⟩)) rfl
 have k64 := (HB4.out.below hB6).cell (j := 0) (v := .slice R rn rc) rfl
 have k6d := HD6.out.b.cell (j := 4) (v := .slice B bn bc) rfl
 have f6d := HD6.out.b.frozen 4
 have HBW6 := Lib.hid (HBW.out.trans (hB6.mono HBW.out.size))
 have hg : w6.grownBy (w6.setCell ⟨D, 4, none⟩ (.slice R rn rc)) (some D) := grownBy_set _ _ _ _
 have HF : Hid (DS (w6.setCell ⟨D, 4, none⟩ (.slice R rn rc)) D k vs a xs h V vc O oc I ic A ac R rn rc) := Lib.hid ⟨HD6.out.b.set 4 _, Rdv.grown HD6.out.v hg (nesome HD6.out.nv), Rdv.grown HD6.out.o hg (nesome HD6.out.no), Rdv.grown HD6.out.i hg (nesome HD6.out.ni), Rdv.grown HD6.out.a hg (nesome HD6.out.na), Rdv.grown HR6.out hg (nesome hrn), HD6.out.nv, HD6.out.no, HD6.out.ni, HD6.out.na, hrn⟩
 have HG : Hid (w.grownBy (w6.setCell ⟨D, 4, none⟩ (.slice R rn rc)) (some D)) := Lib.hid (below_grown HBW6.out hg)
 clear hB6 hg HA HB3 HB4 HB5 k5 kf
 generalize hp : (decide (2 ≤ h) && decide (xs = bs)) = p
 have HP := Lib.hid hp
 clear hp
 go_wp2
 go_ret
 exact ⟨ret_bool HP.out.symm, HF.out, HG.out⟩
theorem passes1_any {D k : Nat} {vs a bs : List Int} {h : Nat} {V : Option Addr} {vc : Nat} {O : Option Addr} {oc : Nat} {I : Option Addr} {ic : Nat} {A : Option Addr} {ac : Nat} {B : Option Addr} {bn bc : Nat} (R : Option Addr) (rn rc : Nat) (xs : List Int) (w : World) (hs : DS w D k vs a bs h V vc O oc I ic A ac B bn bc) (hr : Rd .u8 w R rn rc xs) (hrn : R ≠ none → blk R ≠ D) (hh : h ≤ 100000) (hn : rn ≤ 100000) :
 Calls Tryz.prog 124 #[.pointer (some ⟨D, 0, none⟩), .slice R rn rc, .int .i64 1] w fun e w' => e = .returned (.bool (decide (Cr.chkErr 1 xs = 0))) ∧ DS w' D k vs a xs h V vc O oc I ic A ac R rn rc ∧ w.grownBy w' (some D) := by
 have hD := hs.b.lt
 have HB0 : Hid (Below w.heap.size w ((((w.alloc (.cells #[.pointer (some ⟨D, 0, none⟩)] 186)).alloc (.cells #[.slice R rn rc] 28)).alloc (.cells #[.int .i64 1] 117)).alloc (.cells #[.nilFunc, .nilFunc] 236))) := Lib.hid (((((Below.refl _ w).alloc (Nat.le_refl _) _).alloc (by simp) _).alloc (by simp; omega) _).alloc (by simp; omega) _)
 have hL0 : Blk ((((w.alloc (.cells #[.pointer (some ⟨D, 0, none⟩)] 186)).alloc (.cells #[.slice R rn rc] 28)).alloc (.cells #[.int .i64 1] 117)).alloc (.cells #[.nilFunc, .nilFunc] 236)) (w.heap.size + 1 + 1 + 1) 236 [.nilFunc, .nilFunc] := Blk.new (((w.alloc (.cells #[.pointer (some ⟨D, 0, none⟩)] 186)).alloc (.cells #[.slice R rn rc] 28)).alloc (.cells #[.int .i64 1] 117)) [.nilFunc, .nilFunc] 236 (by simp)
 have H3 : Hid (Blk ((((w.alloc (.cells #[.pointer (some ⟨D, 0, none⟩)] 186)).alloc (.cells #[.slice R rn rc] 28)).alloc (.cells #[.int .i64 1] 117)).alloc (.cells #[.nilFunc, .nilFunc] 236)) w.heap.size 186 [.pointer (some ⟨D, 0, none⟩)]) := Lib.hid ((((Blk.new w [.pointer (some ⟨D, 0, none⟩)] 186 rfl).alloc _).alloc _).alloc _)
 have H4 : Hid (Blk ((((w.alloc (.cells #[.pointer (some ⟨D, 0, none⟩)] 186)).alloc (.cells #[.slice R rn rc] 28)).alloc (.cells #[.int .i64 1] 117)).alloc (.cells #[.nilFunc, .nilFunc] 236)) (w.heap.size + 1) 28 [.slice R rn rc]) := Lib.hid (((Blk.new (w.alloc (.cells #[.pointer (some ⟨D, 0, none⟩)] 186)) [.slice R rn rc] 28 (by simp)).alloc _).alloc _)
 have H5 : Hid (Blk ((((w.alloc (.cells #[.pointer (some ⟨D, 0, none⟩)] 186)).alloc (.cells #[.slice R rn rc] 28)).alloc (.cells #[.int .i64 1] 117)).alloc (.cells #[.nilFunc, .nilFunc] 236)) (w.heap.size + 1 + 1) 117 [.int .i64 1]) := Lib.hid ((Blk.new ((w.alloc (.cells #[.pointer (some ⟨D, 0, none⟩)] 186)).alloc (.cells #[.slice R rn rc] 28)) [.int .i64 1] 117 (by simp)).alloc _)
 have HS := Lib.hid hs
 have HR := Lib.hid hr
 clear hs hr
 go_enter Tryz.func124, Tryz.ntmps124
 go_wp2_with (refine strow (cs := [.func (.func 177) #[] #[.pointer (some ⟨w.heap.size, 0, none⟩), .pointer (some ⟨w.heap.size + 1, 0, none⟩)], .func (.func 179) #[] #[.pointer (some ⟨w.heap.size + 1 + 1, 0, none⟩), .pointer (some ⟨w.heap.size + 1, 0, none⟩)]]) rfl 236 (.tmp 7) (.tmp 11) rfl rfl rfl hL0 rfl (by kernel_rfl) (by simp [Value.oneCell']) ?_
              intro W5 g1 g2
              have HA := Lib.hid g1
              have HB3 := Lib.hid (H3.out.grown g2 (by simp; omega))
              have HB4 := Lib.hid (H4.out.grown g2 (by simp))
              have HB5 := Lib.hid (H5.out.grown g2 (by simp))
              have HBW := Lib.hid (HB0.out.grown g2 HB0.out.size (fun j e => by cases e; omega))
              have HDS5 := Lib.hid (DS.below HS.out HBW.out)
              have HR5 := Lib.hid (Rdv.below HR.out HBW.out)
              have k5 := HB5.out.cell (j := 0) (v := .int .i64 1) rfl
              have kf : W5.cell? ⟨w.heap.size + 1 + 1 + 1, 1, none⟩ = some (.func (.func 179) #[] #[.pointer (some ⟨w.heap.size + 1 + 1, 0, none⟩), .pointer (some ⟨w.heap.size + 1, 0, none⟩)]) := HA.out.cell rfl
              clear g1 g2 hL0 H3 H4 H5 HB0)
 refine (pass2_any (w.heap.size + 1 + 1) (w.heap.size + 1) 1 R rn rc xs W5 HR5.out hn HB5.out HB4.out).mono ?_
 rintro e w6 ⟨rfl, hB6⟩
 have HD6 := Lib.hid (DS.below HDS5.out hB6)
 have HR6 := Lib.hid (Rdv.below HR5.out hB6)
 have k63 := (HB3.out.below hB6).cell (j := 0) (v := .pointer (some ⟨D, 0, none⟩)) rfl
 have k64 := (HB4.out.below hB6).cell (j := 0) (v := .slice R rn rc) rfl
 have k6d := HD6.out.b.cell (j := 4) (v := .slice B bn bc) rfl
 have f6d := HD6.out.b.frozen 4
 have HBW6 := Lib.hid (HBW.out.trans (hB6.mono HBW.out.size))
 have hg : w6.grownBy (w6.setCell ⟨D, 4, none⟩ (.slice R rn rc)) (some D) := grownBy_set _ _ _ _
 have HF : Hid (DS (w6.setCell ⟨D, 4, none⟩ (.slice R rn rc)) D k vs a xs h V vc O oc I ic A ac R rn rc) := Lib.hid ⟨HD6.out.b.set 4 _, Rdv.grown HD6.out.v hg (nesome HD6.out.nv), Rdv.grown HD6.out.o hg (nesome HD6.out.no), Rdv.grown HD6.out.i hg (nesome HD6.out.ni), Rdv.grown HD6.out.a hg (nesome HD6.out.na), Rdv.grown HR6.out hg (nesome hrn), HD6.out.nv, HD6.out.no, HD6.out.ni, HD6.out.na, hrn⟩
 have HG : Hid (w.grownBy (w6.setCell ⟨D, 4, none⟩ (.slice R rn rc)) (some D)) := Lib.hid (below_grown HBW6.out hg)
 clear hB6 hg HA HB3 HB4 HB5 k5 kf
 generalize hp : (decide (Cr.chkErr 1 xs = 0)) = p
 have HP := Lib.hid hp
 clear hp
 go_wp2
 go_ret
 exact ⟨ret_bool HP.out.symm, HF.out, HG.out⟩
theorem passes2_any {D k : Nat} {vs a bs : List Int} {h : Nat} {V : Option Addr} {vc : Nat} {O : Option Addr} {oc : Nat} {I : Option Addr} {ic : Nat} {A : Option Addr} {ac : Nat} {B : Option Addr} {bn bc : Nat} (kind : Int) (hk : 1 < kind) (R : Option Addr) (rn rc : Nat) (xs : List Int) (w : World) (hs : DS w D k vs a bs h V vc O oc I ic A ac B bn bc) (hr : Rd .u8 w R rn rc xs) (hrn : R ≠ none → blk R ≠ D) (hh : h ≤ 100000) (hn : rn ≤ 100000) :
 Calls Tryz.prog 124 #[.pointer (some ⟨D, 0, none⟩), .slice R rn rc, .int .i64 kind] w fun e w' => e = .returned (.bool (decide (Cr.chkErr kind xs = 0))) ∧ DS w' D k vs a xs h V vc O oc I ic A ac R rn rc ∧ w.grownBy w' (some D) := by
 have hD := hs.b.lt
 have HB0 : Hid (Below w.heap.size w ((((w.alloc (.cells #[.pointer (some ⟨D, 0, none⟩)] 186)).alloc (.cells #[.slice R rn rc] 28)).alloc (.cells #[.int .i64 kind] 117)).alloc (.cells #[.nilFunc, .nilFunc] 236))) := Lib.hid (((((Below.refl _ w).alloc (Nat.le_refl _) _).alloc (by simp) _).alloc (by simp; omega) _).alloc (by simp; omega) _)
 have hL0 : Blk ((((w.alloc (.cells #[.pointer (some ⟨D, 0, none⟩)] 186)).alloc (.cells #[.slice R rn rc] 28)).alloc (.cells #[.int .i64 kind] 117)).alloc (.cells #[.nilFunc, .nilFunc] 236)) (w.heap.size + 1 + 1 + 1) 236 [.nilFunc, .nilFunc] := Blk.new (((w.alloc (.cells #[.pointer (some ⟨D, 0, none⟩)] 186)).alloc (.cells #[.slice R rn rc] 28)).alloc (.cells #[.int .i64 kind] 117)) [.nilFunc, .nilFunc] 236 (by simp)
 have H3 : Hid (Blk ((((w.alloc (.cells #[.pointer (some ⟨D, 0, none⟩)] 186)).alloc (.cells #[.slice R rn rc] 28)).alloc (.cells #[.int .i64 kind] 117)).alloc (.cells #[.nilFunc, .nilFunc] 236)) w.heap.size 186 [.pointer (some ⟨D, 0, none⟩)]) := Lib.hid ((((Blk.new w [.pointer (some ⟨D, 0, none⟩)] 186 rfl).alloc _).alloc _).alloc _)
 have H4 : Hid (Blk ((((w.alloc (.cells #[.pointer (some ⟨D, 0, none⟩)] 186)).alloc (.cells #[.slice R rn rc] 28)).alloc (.cells #[.int .i64 kind] 117)).alloc (.cells #[.nilFunc, .nilFunc] 236)) (w.heap.size + 1) 28 [.slice R rn rc]) := Lib.hid (((Blk.new (w.alloc (.cells #[.pointer (some ⟨D, 0, none⟩)] 186)) [.slice R rn rc] 28 (by simp)).alloc _).alloc _)
 have H5 : Hid (Blk ((((w.alloc (.cells #[.pointer (some ⟨D, 0, none⟩)] 186)).alloc (.cells #[.slice R rn rc] 28)).alloc (.cells #[.int .i64 kind] 117)).alloc (.cells #[.nilFunc, .nilFunc] 236)) (w.heap.size + 1 + 1) 117 [.int .i64 kind]) := Lib.hid ((Blk.new ((w.alloc (.cells #[.pointer (some ⟨D, 0, none⟩)] 186)).alloc (.cells #[.slice R rn rc] 28)) [.int .i64 kind] 117 (by simp)).alloc _)
 have HS := Lib.hid hs
 have HR := Lib.hid hr
 clear hs hr
 go_enter Tryz.func124, Tryz.ntmps124
 go_wp2_with (refine strow (cs := [.func (.func 177) #[] #[.pointer (some ⟨w.heap.size, 0, none⟩), .pointer (some ⟨w.heap.size + 1, 0, none⟩)], .func (.func 179) #[] #[.pointer (some ⟨w.heap.size + 1 + 1, 0, none⟩), .pointer (some ⟨w.heap.size + 1, 0, none⟩)]]) rfl 236 (.tmp 7) (.tmp 11) rfl rfl rfl hL0 rfl (by kernel_rfl) (by simp [Value.oneCell']) ?_
              intro W5 g1 g2
              have HA := Lib.hid g1
              have HB3 := Lib.hid (H3.out.grown g2 (by simp; omega))
              have HB4 := Lib.hid (H4.out.grown g2 (by simp))
              have HB5 := Lib.hid (H5.out.grown g2 (by simp))
              have HBW := Lib.hid (HB0.out.grown g2 HB0.out.size (fun j e => by cases e; omega))
              have HDS5 := Lib.hid (DS.below HS.out HBW.out)
              have HR5 := Lib.hid (Rdv.below HR.out HBW.out)
              have k5 := HB5.out.cell (j := 0) (v := .int .i64 kind) rfl
              have kf : W5.cell? ⟨w.heap.size + 1 + 1 + 1, 1, none⟩ = some (.func (.func 179) #[] #[.pointer (some ⟨w.heap.size + 1 + 1, 0, none⟩), .pointer (some ⟨w.heap.size + 1, 0, none⟩)]) := HA.out.cell rfl
              clear g1 g2 hL0 H3 H4 H5 HB0)
 refine (pass2_any (w.heap.size + 1 + 1) (w.heap.size + 1) kind R rn rc xs W5 HR5.out hn HB5.out HB4.out).mono ?_
 rintro e w6 ⟨rfl, hB6⟩
 have HD6 := Lib.hid (DS.below HDS5.out hB6)
 have HR6 := Lib.hid (Rdv.below HR5.out hB6)
 have k63 := (HB3.out.below hB6).cell (j := 0) (v := .pointer (some ⟨D, 0, none⟩)) rfl
 have k64 := (HB4.out.below hB6).cell (j := 0) (v := .slice R rn rc) rfl
 have k6d := HD6.out.b.cell (j := 4) (v := .slice B bn bc) rfl
 have f6d := HD6.out.b.frozen 4
 have HBW6 := Lib.hid (HBW.out.trans (hB6.mono HBW.out.size))
 have hg : w6.grownBy (w6.setCell ⟨D, 4, none⟩ (.slice R rn rc)) (some D) := grownBy_set _ _ _ _
 have HF : Hid (DS (w6.setCell ⟨D, 4, none⟩ (.slice R rn rc)) D k vs a xs h V vc O oc I ic A ac R rn rc) := Lib.hid ⟨HD6.out.b.set 4 _, Rdv.grown HD6.out.v hg (nesome HD6.out.nv), Rdv.grown HD6.out.o hg (nesome HD6.out.no), Rdv.grown HD6.out.i hg (nesome HD6.out.ni), Rdv.grown HD6.out.a hg (nesome HD6.out.na), Rdv.grown HR6.out hg (nesome hrn), HD6.out.nv, HD6.out.no, HD6.out.ni, HD6.out.na, hrn⟩
 have HG : Hid (w.grownBy (w6.setCell ⟨D, 4, none⟩ (.slice R rn rc)) (some D)) := Lib.hid (below_grown HBW6.out hg)
 clear hB6 hg HA HB3 HB4 HB5 k5 kf
 generalize hp : (decide (Cr.chkErr kind xs = 0)) = p
 have HP := Lib.hid hp
 clear hp
 go_wp2
 go_ret
 exact ⟨ret_bool HP.out.symm, HF.out, HG.out⟩
set_option maxHeartbeats 2000000
theorem dEs_bd (o : Ob) (i : Nat) : -127 ≤ gi o.dE i ∧ gi o.dE i ≤ 127 := by
 unfold Ob.dE
 split
 · rcases Nat.lt_or_ge i o.a.length with h | h
   · rw [gi_range _ h]; unfold Ob.eT; exact ext_bd _
   · rw [gi_over (by simpa using h)]; omega
 · rw [gi_over (by simp)]; omega
theorem soft_gi {vs : List Int} (h : SoftB vs = true) (i : Nat) : -127 ≤ gi vs i ∧ gi vs i ≤ 127 := by
 rcases Nat.lt_or_ge i vs.length with h1 | h1
 · exact softB_mem h _ (gi_mem vs i h1)
 · rw [gi_over h1]; omega
theorem pk_bd {xs : List Int} (h : ∀ i, -127 ≤ gi xs i ∧ gi xs i ≤ 127) (l : List Int) : ∀ v ∈ pk xs l, -127 ≤ v ∧ v ≤ 127 := fun v hv => by
 unfold pk at hv
 obtain ⟨i, -, rfl⟩ := List.mem_map.1 hv
 exact h _
theorem bkL_len (k code : Nat) : (bkL k code).length = k := by
 unfold bkL; split
 · exact Tu.ordL_len k
 · exact inv_len
theorem apN_ok (vs : List Int) (k : Nat) : ∀ h, (apN vs k h).length = k ∧ ∀ v ∈ apN vs k h, -127 ≤ v ∧ v ≤ 127
 | 0 => ⟨List.length_replicate .., fun v hv => by have := List.eq_of_mem_replicate hv; omega⟩
 | h + 1 => ⟨by show (pk _ _).length = k; rw [pk_len, bkL_len], pk_bd (dEs_bd _) _⟩
theorem obN_ok {vs : List Int} {k : Nat} (hv : SoftB vs = true) (hk : 1 ≤ k ∧ k ≤ 6144) (h : Nat) : (obN vs k h).ok := by
 obtain ⟨h1, h2⟩ := apN_ok vs k h
 refine ⟨by show 1 ≤ (apN vs k h).length; omega, by show (apN vs k h).length ≤ _; omega, by show (pk _ _).length = (apN vs k h).length + 3; rw [pk_len, sys_len, h1], by show (pk _ _).length = (apN vs k h).length + 3; rw [pk_len, par_len, h1], pk_bd (soft_gi hv) _, pk_bd (soft_gi hv) _, h2⟩
noncomputable def befN (vs : List Int) (k : Nat) : Nat → List Int
 | 0 => []
 | h + 1 => decN vs k h
noncomputable def okN (kind : Int) (vs : List Int) (k h : Nat) : Bool := if kind = 0 then decide (2 ≤ h + 1) && decide (decN vs k h = befN vs k h) else decide (Cr.chkErr kind (decN vs k h) = 0)
theorem cd_odd {h : Nat} (e : (h + 1) % 2 = 1) : cdN (h + 1) = 1 := by unfold cdN; rw [if_pos e]
theorem cd_even {h : Nat} (e : (h + 1) % 2 = 0) : cdN (h + 1) = 2 := by unfold cdN; rw [if_neg (by omega)]
def StN (W : World) (D k : Nat) (vs : List Int) (h : Nat) : Prop := ∃ V vc O oc I ic A ac B bn bc, DS W D k vs (apN vs k h) (befN vs k h) h V vc O oc I ic A ac B bn bc
theorem StN.lt {W : World} {D k : Nat} {vs : List Int} {h : Nat} (hs : StN W D k vs h) : D < W.heap.size := by
 obtain ⟨V, vc, O, oc, I, ic, A, ac, B, bn, bc, hd⟩ := hs
 exact hd.b.lt
theorem next_any (D k u h : Nat) (vs : List Int) (w : World) (hu : k = Tu.szK u) (hs : StN w D k vs h) (hv : SoftB vs = true) (hh : h ≤ 1000) :
 Calls Tryz.prog 123 #[.pointer (some ⟨D, 0, none⟩)] w fun e w' => ∃ R rc V vc O oc I ic A ac B bn bc, e = .returned (.slice R k rc) ∧ Rd .u8 w' R k rc (decN vs k h) ∧ (R ≠ none → w.heap.size ≤ blk R) ∧ DS w' D k vs (apN vs k (h + 1)) (befN vs k h) (h + 1) V vc O oc I ic A ac B bn bc ∧ w.grownBy w' (some D) := by
 obtain ⟨V, vc, O, oc, I, ic, A, ac, B, bn, bc, hd⟩ := hs
 have hval : Tu.validK (k : Int) = true := by rw [hu]; exact Tu.szK_valid u
 have hb := Tu.szK_bd u
 rw [← hu] at hb
 have hok := obN_ok (vs := vs) (k := k) hv ⟨by omega, by omega⟩ h
 rcases Nat.mod_two_eq_zero_or_one (h + 1) with e | e
 · have c := cd_even e
   have eo : obN vs k h = obH vs k 2 (apN vs k h) := by unfold obN; rw [c]
   rw [eo] at hok
   refine (next2_any D k h vs (apN vs k h) (befN vs k h) V vc O oc I ic A ac B bn bc w hd hval hok (fun j hj => ?_) hh e).mono ?_
   · obtain ⟨p, e1, e2⟩ := sys_bd hu (.inr rfl) hj
     obtain ⟨q, e3, e4⟩ := par_bd (k := k) (code := 2) (.inr rfl) hj
     rw [e1, e3]; omega
   · rintro en w' ⟨R, rc, A', ac', rfl, h1, h2, h3, h4⟩
     refine ⟨R, rc, V, vc, O, oc, I, ic, A', ac', B, bn, bc, rfl, ?_, h2, ?_, h4⟩
     · unfold decN; rw [c, eo]; exact h1
     · have : apN vs k (h + 1) = pk (obH vs k 2 (apN vs k h)).dE (bkL k 2) := by show pk (obH vs k (cdN (h + 1)) _).dE (bkL k (cdN (h + 1))) = _; rw [c]
       rw [this]; exact h3
 · have c := cd_odd e
   have eo : obN vs k h = obH vs k 1 (apN vs k h) := by unfold obN; rw [c]
   rw [eo] at hok
   refine (next1_any D k h vs (apN vs k h) (befN vs k h) V vc O oc I ic A ac B bn bc w hd hval hok (fun j hj => ?_) hh e).mono ?_
   · obtain ⟨p, e1, e2⟩ := sys_bd hu (.inl rfl) hj
     obtain ⟨q, e3, e4⟩ := par_bd (k := k) (code := 1) (.inl rfl) hj
     rw [e1, e3]; omega
   · rintro en w' ⟨R, rc, A', ac', rfl, h1, h2, h3, h4⟩
     refine ⟨R, rc, V, vc, O, oc, I, ic, A', ac', B, bn, bc, rfl, ?_, h2, ?_, h4⟩
     · unfold decN; rw [c, eo]; exact h1
     · have : apN vs k (h + 1) = pk (obH vs k 1 (apN vs k h)).dE (bkL k 1) := by show pk (obH vs k (cdN (h + 1)) _).dE (bkL k (cdN (h + 1))) = _; rw [c]
       rw [this]; exact h3
theorem pass_any (D k h : Nat) (vs : List Int) (kind : Int) (R : Option Addr) (rc : Nat) (V : Option Addr) (vc : Nat) (O : Option Addr) (oc : Nat) (I : Option Addr) (ic : Nat) (A : Option Addr) (ac : Nat) (B : Option Addr) (bn bc : Nat) (w : World) (hk : 0 ≤ kind) (hs : DS w D k vs (apN vs k (h + 1)) (befN vs k h) (h + 1) V vc O oc I ic A ac B bn bc) (hr : Rd .u8 w R k rc (decN vs k h)) (hrn : R ≠ none → blk R ≠ D) (hh : h ≤ 1000) (hn : k ≤ 6144) :
 Calls Tryz.prog 124 #[.pointer (some ⟨D, 0, none⟩), .slice R k rc, .int .i64 kind] w fun e w' => e = .returned (.bool (okN kind vs k h)) ∧ StN w' D k vs (h + 1) ∧ Rd .u8 w' R k rc (decN vs k h) ∧ w'.cell? ⟨D, 5, none⟩ = some (.int .i64 ((h + 1 : Nat) : Int)) ∧ w.grownBy w' (some D) := by
 have fin : ∀ {p : Bool} {e : Ending} {w' : World}, okN kind vs k h = p → (e = .returned (.bool p) ∧ DS w' D k vs (apN vs k (h + 1)) (decN vs k h) (h + 1) V vc O oc I ic A ac R k rc ∧ w.grownBy w' (some D)) → (e = .returned (.bool (okN kind vs k h)) ∧ StN w' D k vs (h + 1) ∧ Rd .u8 w' R k rc (decN vs k h) ∧ w'.cell? ⟨D, 5, none⟩ = some (.int .i64 ((h + 1 : Nat) : Int)) ∧ w.grownBy w' (some D)) := by
  rintro p e w' hp ⟨h1, h2, h3⟩
  exact ⟨by rw [hp]; exact h1, ⟨V, vc, O, oc, I, ic, A, ac, R, k, rc, h2⟩, h2.p, h2.b.cell rfl, h3⟩
 rcases (by omega : kind = 0 ∨ kind = 1 ∨ 1 < kind) with h0 | h0 | h0
 · rw [h0] at fin ⊢
   exact (passes0_any R k rc (decN vs k h) w hs hr hrn (by omega) (by omega)).mono fun e w' hp => fin (by unfold okN; rw [if_pos rfl]) hp
 · rw [h0] at fin ⊢
   exact (passes1_any R k rc (decN vs k h) w hs hr hrn (by omega) (by omega)).mono fun e w' hp => fin (by unfold okN; rw [if_neg (by decide)]) hp
 · exact (passes2_any kind h0 R k rc (decN vs k h) w hs hr hrn (by omega) (by omega)).mono fun e w' hp => fin (by unfold okN; rw [if_neg (by omega)]) hp
def DcP (k : Nat) (vs : List Int) (kind : Int) (most : Nat) (w : World) (e : Ending) (w' : World) : Prop :=
 Below w.heap.size w w' ∧ ((∃ h, h < most ∧ okN kind vs k h = true ∧ (∀ q, q < h → okN kind vs k q = false) ∧ ∃ R rc, e = .returned (.tuple #[.slice R k rc, .int .i64 ((h + 1 : Nat) : Int), .int .i64 0]) ∧ Rd .u8 w' R k rc (decN vs k h) ∧ (R ≠ none → w.heap.size ≤ blk R)) ∨
  ((∀ q, q < most → okN kind vs k q = false) ∧ e = .returned (.tuple #[.slice none 0 0, .int .i64 0, .int .i64 11])))
def DcI (w : World) (D k : Nat) (vs : List Int) (kind : Int) (most : Nat) (i : Value) (wr : World) : Prop := ∃ h : Nat, h ≤ most ∧ i = .int .i64 (h : Int) ∧ StN wr D k vs h ∧ (∀ q, q < h → okN kind vs k q = false) ∧ Below w.heap.size w wr
theorem decode_half (S : Option Addr) (k u cs : Nat) (vs : List Int) (kind : Int) (most : Nat) (w : World) (h : Rd .i64 w S (3 * (k + 4)) cs vs) (hu : k = Tu.szK u) (hk : 0 ≤ kind ∧ kind ≤ 4) (hm : 1 ≤ most ∧ most ≤ 64) (hs : SoftB vs = true) :
 Calls Tryz.prog 73 #[.slice S (3 * (k + 4)) cs, .int .i64 kind, .int .i64 (most : Int)] w (DcP k vs kind most w) := by
 have hval : Tu.validK (k : Int) = true := by rw [hu]; exact Tu.szK_valid u
 have hb := Tu.szK_bd u
 rw [← hu] at hb
 have HBG := Lib.hid (begun_ok S k cs vs kind (most : Int) w h hval hk (by omega) hs)
 have HNX := Lib.hid (fun D h W hst hh => next_any D k u h vs W hu hst hs hh)
 have HPS := Lib.hid (fun D h R rc V vc O oc I ic A ac B bn bc W h1 h2 h3 hh => pass_any D k h vs kind R rc V vc O oc I ic A ac B bn bc W hk.1 h1 h2 h3 hh (by omega))
 have HM := Lib.hid hm
 clear h hu hs hval hb hk
 go_enter Tryz.func73, Tryz.ntmps73
 go_wp2_with fail
 refine HBG.out.mono ?_
 rintro e w1 ⟨D, V, vc, O, oc, I, ic, A, ac, rfl, hDS, hD, hB⟩
 have HST : Hid (StN w1 D k vs 0) := Lib.hid ⟨V, vc, O, oc, I, ic, A, ac, none, 0, 0, hDS⟩
 have HD := Lib.hid hD
 have HB := Lib.hid hB
 clear hDS hD hB
 go_wp2_with fail
 go_loopw [22] (fun i wr => DcI w D k vs kind most i wr) (fun i _ => most - (intOf i).toNat)
 case atStart => exact ⟨0, by omega, rfl, HST.out, fun q hq => by omega, HB.out⟩
 case round =>
  obtain ⟨h, hh, rfl, hst, hno, hB⟩ := hrel
  have HNO := Lib.hid hno
  have HBr := Lib.hid hB
  have hm2 : most ≤ 64 := HM.out.2
  have HX := Lib.hid (HNX.out D h wr hst (by omega))
  have HDL := Lib.hid (StN.lt hst)
  clear hno hB hst
  by_cases hlt : h < most
  · go_wp2_with fail
    refine HX.out.mono ?_
    rintro e w2 ⟨R, rc, V, vc, O, oc, I, ic, A, ac, B, bn, bc, rfl, hr, hrn, hds, hg⟩
    have HPX := Lib.hid (HPS.out D h R rc V vc O oc I ic A ac B bn bc w2 hds hr (fun hA => by have := hrn hA; have := HDL.out; omega) (by omega))
    have HRB := Lib.hid (fun hA => Nat.le_trans HBr.out.size (hrn hA))
    have HB2 := Lib.hid (HBr.out.grown hg HBr.out.size (fun j e => by cases e; exact HD.out))
    clear hr hrn hds hg
    go_wp2_with fail
    refine HPX.out.mono ?_
    rintro e w3 ⟨rfl, hst, hrd, hc5, hg⟩
    have HS3 := Lib.hid hst
    have HR3 := Lib.hid hrd
    have HB3 := Lib.hid (HB2.out.grown hg HB2.out.size (fun j e => by cases e; exact HD.out))
    clear hst hrd hg
    obtain ⟨p, hp⟩ : ∃ p, p = okN kind vs k h := ⟨_, rfl⟩
    rw [← hp]
    have HP := Lib.hid hp
    clear hp
    cases p with
    | true =>
      go_wp2_with fail
      go_quiet (fail)
      go_wp2
      go_ret3
      exact ⟨HB3.out.trans (Qt.below ⟨nq, rfl⟩ _), .inl ⟨h, hlt, HP.out.symm, HNO.out, R, rc, rfl, Rdv.drewN HR3.out nq, HRB.out⟩⟩
    | false =>
      go_wp2
      go_roundw
      case rel => exact ⟨h + 1, by omega, by go_num, HS3.out, lt_succ_cases HNO.out HP.out.symm, HB3.out⟩
      case measure => simp [intOf]; omega
  · obtain rfl : h = most := by omega
    clear HX
    go_wp2
    go_ret3
    exact ⟨HBr.out, .inr ⟨HNO.out, rfl⟩⟩
end Go.Proofs.YtkdfefpnhaebfaaGreat
