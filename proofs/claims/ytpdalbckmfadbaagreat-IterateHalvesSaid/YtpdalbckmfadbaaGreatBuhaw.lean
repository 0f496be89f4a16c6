/-
  Bundle of the texts Ih Ij Il Id. Conditions: none.
-/
import Derived.Test.YtpdalbckmfadbaaGreatBuhau
import Derived.Test.YtpdalbckmfadbaaGreatBuhav
import Derived.Test.YtpdalbckmfadbaaGreatBuhas
namespace Go.Proofs.YtpdalbckmfadbaaGreat
open Go.RowKit
set_option linter.unusedVariables false
attribute [local go_sem] Oper.semAt_some
theorem below_grown {w w1 w2 : World} {D : Nat} (h : Below w.heap.size w w1) (hg : w1.grownBy w2 (some D)) : w.grownBy w2 (some D) :=
  ⟨hg.os.trans h.os, hg.tape.trans h.tape, hg.output.trans h.output, Nat.le_trans h.size hg.size, fun j hj hne => (hg.block j (Nat.lt_of_lt_of_le hj h.size) hne).trans (h.block j hj)⟩
set_option maxRecDepth 100000 in
theorem agrees_any {D k : Nat} {vs a bs : List Int} {h : Nat} {V : Option Addr} {vc : Nat} {O : Option Addr} {oc : Nat} {I : Option Addr} {ic : Nat} {A : Option Addr} {ac : Nat} {B : Option Addr} {bn bc : Nat} (R : Option Addr) (rn rc : Nat) (xs : List Int) (w : World) (hs : DS w D k vs a bs h V vc O oc I ic A ac B bn bc) (hr : Rd .u8 w R rn rc xs) (hh : h ≤ 100000) :
    Calls Tryz.prog 98 #[.pointer (some ⟨D, 0, none⟩), .slice R rn rc] w fun e w' => e = .returned (.bool (decide (2 ≤ h) && decide (xs = bs))) ∧ Below w.heap.size w w' := by
  have k5 := hs.b.cell (j := 5) (v := .int .i64 (h : Int)) rfl
  have k4 := hs.b.cell (j := 4) (v := .slice B bn bc) rfl
  have HEQ := Lib.hid (Cr.equal_any R B rn rc bn bc xs bs w hr hs.p)
  clear hs hr
  by_cases h2 : 2 ≤ h
  · have q : decide ((h : Int) ≥ 2) = true := by simp; omega
    rw [decide_eq_true h2, Bool.true_and]
    clear h2
    generalize decide (xs = bs) = p at *
    go_enter Tryz.func98, Tryz.ntmps98
    go_wp2_with fail
    refine HEQ.out.mono ?_
    rintro e w1 ⟨rfl, q1, rfl⟩
    go_wp2
    go_ret
    exact ⟨rfl, Qt.below ⟨q1, rfl⟩ _⟩
  · have q : decide ((h : Int) ≥ 2) = false := by simp; omega
    rw [decide_eq_false h2, Bool.false_and]
    clear h2
    go_enter Tryz.func98, Tryz.ntmps98
    go_wp2
    go_ret
    exact ⟨rfl, Below.refl _ _⟩
set_option maxRecDepth 100000 in
theorem pass1_any {D k : Nat} {vs a bs : List Int} {h : Nat} {V : Option Addr} {vc : Nat} {O : Option Addr} {oc : Nat} {I : Option Addr} {ic : Nat} {A : Option Addr} {ac : Nat} {B : Option Addr} {bn bc : Nat} (b3 b4 : Nat) (R : Option Addr) (rn rc : Nat) (xs : List Int) (w : World) (hs : DS w D k vs a bs h V vc O oc I ic A ac B bn bc) (hr : Rd .u8 w R rn rc xs) (hh : h ≤ 100000) (h3 : Blk w b3 90 [.pointer (some ⟨D, 0, none⟩)]) (h4 : Blk w b4 22 [.slice R rn rc]) :
    Calls Tryz.prog 97 #[.pointer (some ⟨b3, 0, none⟩), .pointer (some ⟨b4, 0, none⟩)] w fun e w' => e = .returned (.bool (decide (2 ≤ h) && decide (xs = bs))) ∧ Below w.heap.size w w' := by
  have HAG := Lib.hid (agrees_any R rn rc xs w hs hr hh)
  have k3 := h3.cell (j := 0) (v := .pointer (some ⟨D, 0, none⟩)) rfl
  have k4 := h4.cell (j := 0) (v := .slice R rn rc) rfl
  clear hs hr h3 h4
  generalize (decide (2 ≤ h) && decide (xs = bs)) = p at *
  go_enter Tryz.func97, Tryz.ntmps97
  go_wp2_with fail
  refine HAG.out.mono ?_
  rintro e w1 ⟨rfl, hB⟩
  go_wp2
  go_ret
  exact ⟨rfl, hB⟩
set_option maxRecDepth 100000 in
theorem pass2_any (b5 b4 : Nat) (kind : Int) (R : Option Addr) (rn rc : Nat) (xs : List Int) (w : World) (hr : Rd .u8 w R rn rc xs) (hn : rn ≤ 100000) (h5 : Blk w b5 24 [.int .i64 kind]) (h4 : Blk w b4 22 [.slice R rn rc]) :
    Calls Tryz.prog 99 #[.pointer (some ⟨b5, 0, none⟩), .pointer (some ⟨b4, 0, none⟩)] w fun e w' => e = .returned (.bool (decide (Cr.chkErr kind xs = 0))) ∧ Below w.heap.size w w' := by
  have HCK := Lib.hid (Cr.check_any kind R rn rc xs w hr hn)
  have k5 := h5.cell (j := 0) (v := .int .i64 kind) rfl
  have k4 := h4.cell (j := 0) (v := .slice R rn rc) rfl
  clear hr h5 h4
  by_cases hE : Cr.chkErr kind xs = 0
  · rw [decide_eq_true hE]
    rw [hE] at HCK
    clear hE
    go_enter Tryz.func99, Tryz.ntmps99
    go_wp2_with fail
    refine HCK.out.mono ?_
    rintro e w1 ⟨A', n', c', rfl, hO, hB⟩
    clear hO
    go_wp2
    go_ret
    exact ⟨rfl, hB⟩
  · rw [decide_eq_false hE]
    have q : (Cr.chkErr kind xs == 0) = false := beq_f hE
    generalize Cr.chkErr kind xs = E at *
    clear hE
    go_enter Tryz.func99, Tryz.ntmps99
    go_wp2_with fail
    refine HCK.out.mono ?_
    rintro e w1 ⟨A', n', c', rfl, hO, hB⟩
    clear hO
    go_wp2
    go_ret
    exact ⟨rfl, hB⟩
set_option maxRecDepth 100000 in
set_option maxHeartbeats 1000000 in
theorem passes0_any {D k : Nat} {vs a bs : List Int} {h : Nat} {V : Option Addr} {vc : Nat} {O : Option Addr} {oc : Nat} {I : Option Addr} {ic : Nat} {A : Option Addr} {ac : Nat} {B : Option Addr} {bn bc : Nat} (R : Option Addr) (rn rc : Nat) (xs : List Int) (w : World) (hs : DS w D k vs a bs h V vc O oc I ic A ac B bn bc) (hr : Rd .u8 w R rn rc xs) (hrn : R ≠ none → blk R ≠ D) (hh : h ≤ 100000) (hn : rn ≤ 100000) :
    Calls Tryz.prog 51 #[.pointer (some ⟨D, 0, none⟩), .slice R rn rc, .int .i64 0] w fun e w' => e = .returned (.bool (decide (2 ≤ h) && decide (xs = bs))) ∧ DS w' D k vs a xs h V vc O oc I ic A ac R rn rc ∧ w.grownBy w' (some D) := by
  have hD := hs.b.lt
  have HB0 : Hid (Below w.heap.size w ((((w.alloc (.cells #[.pointer (some ⟨D, 0, none⟩)] 90)).alloc (.cells #[.slice R rn rc] 22)).alloc (.cells #[.int .i64 0] 24)).alloc (.cells #[.nilFunc, .nilFunc] 151))) := Lib.hid (((((Below.refl _ w).alloc (Nat.le_refl _) _).alloc (by simp) _).alloc (by simp; omega) _).alloc (by simp; omega) _)
  have hL0 : Blk ((((w.alloc (.cells #[.pointer (some ⟨D, 0, none⟩)] 90)).alloc (.cells #[.slice R rn rc] 22)).alloc (.cells #[.int .i64 0] 24)).alloc (.cells #[.nilFunc, .nilFunc] 151)) (w.heap.size + 1 + 1 + 1) 151 [.nilFunc, .nilFunc] := Blk.new (((w.alloc (.cells #[.pointer (some ⟨D, 0, none⟩)] 90)).alloc (.cells #[.slice R rn rc] 22)).alloc (.cells #[.int .i64 0] 24)) [.nilFunc, .nilFunc] 151 (by simp)
  have H3 : Hid (Blk ((((w.alloc (.cells #[.pointer (some ⟨D, 0, none⟩)] 90)).alloc (.cells #[.slice R rn rc] 22)).alloc (.cells #[.int .i64 0] 24)).alloc (.cells #[.nilFunc, .nilFunc] 151)) w.heap.size 90 [.pointer (some ⟨D, 0, none⟩)]) := Lib.hid ((((Blk.new w [.pointer (some ⟨D, 0, none⟩)] 90 rfl).alloc _).alloc _).alloc _)
  have H4 : Hid (Blk ((((w.alloc (.cells #[.pointer (some ⟨D, 0, none⟩)] 90)).alloc (.cells #[.slice R rn rc] 22)).alloc (.cells #[.int .i64 0] 24)).alloc (.cells #[.nilFunc, .nilFunc] 151)) (w.heap.size + 1) 22 [.slice R rn rc]) := Lib.hid (((Blk.new (w.alloc (.cells #[.pointer (some ⟨D, 0, none⟩)] 90)) [.slice R rn rc] 22 (by simp)).alloc _).alloc _)
  have H5 : Hid (Blk ((((w.alloc (.cells #[.pointer (some ⟨D, 0, none⟩)] 90)).alloc (.cells #[.slice R rn rc] 22)).alloc (.cells #[.int .i64 0] 24)).alloc (.cells #[.nilFunc, .nilFunc] 151)) (w.heap.size + 1 + 1) 24 [.int .i64 0]) := Lib.hid ((Blk.new ((w.alloc (.cells #[.pointer (some ⟨D, 0, none⟩)] 90)).alloc (.cells #[.slice R rn rc] 22)) [.int .i64 0] 24 (by simp)).alloc _)
  have HS := Lib.hid hs
  have HR := Lib.hid hr
  clear hs hr
  go_enter Tryz.func51, Tryz.ntmps51
  go_wp2_with (refine strow (cs := [.func (.func 97) #[] #[.pointer (some ⟨w.heap.size, 0, none⟩), .pointer (some ⟨w.heap.size + 1, 0, none⟩)], .func (.func 99) #[] #[.pointer (some ⟨w.heap.size + 1 + 1, 0, none⟩), .pointer (some ⟨w.heap.size + 1, 0, none⟩)]]) rfl 151 (.tmp 7) (.tmp 11) rfl rfl rfl hL0 rfl (by kernel_rfl) (by simp [Value.oneCell']) ?_
               intro W5 g1 g2
               have HA := Lib.hid g1
               have HB3 := Lib.hid (H3.out.grown g2 (by simp; omega))
               have HB4 := Lib.hid (H4.out.grown g2 (by simp))
               have HB5 := Lib.hid (H5.out.grown g2 (by simp))
               have HBW := Lib.hid (HB0.out.grown g2 HB0.out.size (fun j e => by cases e; omega))
               have HDS5 := Lib.hid (DS.below HS.out HBW.out)
               have HR5 := Lib.hid (Rdv.below HR.out HBW.out)
               have k5 := HB5.out.cell (j := 0) (v := .int .i64 0) rfl
               have kf : W5.cell? ⟨w.heap.size + 1 + 1 + 1, 0, none⟩ = some (.func (.func 97) #[] #[.pointer (some ⟨w.heap.size, 0, none⟩), .pointer (some ⟨w.heap.size + 1, 0, none⟩)]) := HA.out.cell rfl
               clear g1 g2 hL0 H3 H4 H5 HB0)
  refine (pass1_any w.heap.size (w.heap.size + 1) R rn rc xs W5 HDS5.out HR5.out hh HB3.out HB4.out).mono ?_
  rintro e w6 ⟨rfl, hB6⟩
  have HD6 := Lib.hid (DS.below HDS5.out hB6)
  have HR6 := Lib.hid (Rdv.below HR5.out hB6)
  have k63 := (HB3.out.below hB6).cell (j := 0) (v := .pointer (some ⟨D, 0, none⟩)) rfl
  have k64 := (HB4.out.below hB6).cell (j := 0) (v := .slice R rn rc) rfl
  have k6d := HD6.out.b.cell (j := 4) (v := .slice B bn bc) rfl
  have f6d := HD6.out.b.frozen 4
  have HBW6 := Lib.hid (HBW.out.trans (hB6.mono HBW.out.size))
  have hg : w6.grownBy (w6.setCell ⟨D, 4, none⟩ (.slice R rn rc)) (some D) := grownBy_set _ _ _ _
  have HF : Hid (DS (w6.setCell ⟨D, 4, none⟩ (.slice R rn rc)) D k vs a xs h V vc O oc I ic A ac R rn rc) := Lib.hid ⟨HD6.out.b.set 4 _, Rdv.grown HD6.out.v hg (nesome HD6.out.nv), Rdv.grown HD6.out.o hg (nesome HD6.out.no), Rdv.grown HD6.out.i hg (nesome HD6.out.ni), Rdv.grown HD6.out.a hg (nesome HD6.out.na), Rdv.grown HR6.out hg (nesome hrn), HD6.out.nv, HD6.out.no, HD6.out.ni, HD6.out.na, hrn⟩
  have HG : Hid (w.grownBy (w6.setCell ⟨D, 4, none⟩ (.slice R rn rc)) (some D)) := Lib.hid (below_grown HBW6.out hg)
  clear hB6 hg HA HB3 HB4 HB5 k5 kf
  generalize hp : (decide (2 ≤ h) && decide (xs = bs)) = p
  have HP := Lib.hid hp
  clear hp
  go_wp2
  go_ret
  exact ⟨ret_bool HP.out.symm, HF.out, HG.out⟩
set_option maxRecDepth 100000 in
set_option maxHeartbeats 1000000 in
theorem passes1_any {D k : Nat} {vs a bs : List Int} {h : Nat} {V : Option Addr} {vc : Nat} {O : Option Addr} {oc : Nat} {I : Option Addr} {ic : Nat} {A : Option Addr} {ac : Nat} {B : Option Addr} {bn bc : Nat} (R : Option Addr) (rn rc : Nat) (xs : List Int) (w : World) (hs : DS w D k vs a bs h V vc O oc I ic A ac B bn bc) (hr : Rd .u8 w R rn rc xs) (hrn : R ≠ none → blk R ≠ D) (hh : h ≤ 100000) (hn : rn ≤ 100000) :
    Calls Tryz.prog 51 #[.pointer (some ⟨D, 0, none⟩), .slice R rn rc, .int .i64 1] w fun e w' => e = .returned (.bool (decide (Cr.chkErr 1 xs = 0))) ∧ DS w' D k vs a xs h V vc O oc I ic A ac R rn rc ∧ w.grownBy w' (some D) := by
  have hD := hs.b.lt
  have HB0 : Hid (Below w.heap.size w ((((w.alloc (.cells #[.pointer (some ⟨D, 0, none⟩)] 90)).alloc (.cells #[.slice R rn rc] 22)).alloc (.cells #[.int .i64 1] 24)).alloc (.cells #[.nilFunc, .nilFunc] 151))) := Lib.hid (((((Below.refl _ w).alloc (Nat.le_refl _) _).alloc (by simp) _).alloc (by simp; omega) _).alloc (by simp; omega) _)
  have hL0 : Blk ((((w.alloc (.cells #[.pointer (some ⟨D, 0, none⟩)] 90)).alloc (.cells #[.slice R rn rc] 22)).alloc (.cells #[.int .i64 1] 24)).alloc (.cells #[.nilFunc, .nilFunc] 151)) (w.heap.size + 1 + 1 + 1) 151 [.nilFunc, .nilFunc] := Blk.new (((w.alloc (.cells #[.pointer (some ⟨D, 0, none⟩)] 90)).alloc (.cells #[.slice R rn rc] 22)).alloc (.cells #[.int .i64 1] 24)) [.nilFunc, .nilFunc] 151 (by simp)
  have H3 : Hid (Blk ((((w.alloc (.cells #[.pointer (some ⟨D, 0, none⟩)] 90)).alloc (.cells #[.slice R rn rc] 22)).alloc (.cells #[.int .i64 1] 24)).alloc (.cells #[.nilFunc, .nilFunc] 151)) w.heap.size 90 [.pointer (some ⟨D, 0, none⟩)]) := Lib.hid ((((Blk.new w [.pointer (some ⟨D, 0, none⟩)] 90 rfl).alloc _).alloc _).alloc _)
  have H4 : Hid (Blk ((((w.alloc (.cells #[.pointer (some ⟨D, 0, none⟩)] 90)).alloc (.cells #[.slice R rn rc] 22)).alloc (.cells #[.int .i64 1] 24)).alloc (.cells #[.nilFunc, .nilFunc] 151)) (w.heap.size + 1) 22 [.slice R rn rc]) := Lib.hid (((Blk.new (w.alloc (.cells #[.pointer (some ⟨D, 0, none⟩)] 90)) [.slice R rn rc] 22 (by simp)).alloc _).alloc _)
  have H5 : Hid (Blk ((((w.alloc (.cells #[.pointer (some ⟨D, 0, none⟩)] 90)).alloc (.cells #[.slice R rn rc] 22)).alloc (.cells #[.int .i64 1] 24)).alloc (.cells #[.nilFunc, .nilFunc] 151)) (w.heap.size + 1 + 1) 24 [.int .i64 1]) := Lib.hid ((Blk.new ((w.alloc (.cells #[.pointer (some ⟨D, 0, none⟩)] 90)).alloc (.cells #[.slice R rn rc] 22)) [.int .i64 1] 24 (by simp)).alloc _)
  have HS := Lib.hid hs
  have HR := Lib.hid hr
  clear hs hr
  go_enter Tryz.func51, Tryz.ntmps51
  go_wp2_with (refine strow (cs := [.func (.func 97) #[] #[.pointer (some ⟨w.heap.size, 0, none⟩), .pointer (some ⟨w.heap.size + 1, 0, none⟩)], .func (.func 99) #[] #[.pointer (some ⟨w.heap.size + 1 + 1, 0, none⟩), .pointer (some ⟨w.heap.size + 1, 0, none⟩)]]) rfl 151 (.tmp 7) (.tmp 11) rfl rfl rfl hL0 rfl (by kernel_rfl) (by simp [Value.oneCell']) ?_
               intro W5 g1 g2
               have HA := Lib.hid g1
               have HB3 := Lib.hid (H3.out.grown g2 (by simp; omega))
               have HB4 := Lib.hid (H4.out.grown g2 (by simp))
               have HB5 := Lib.hid (H5.out.grown g2 (by simp))
               have HBW := Lib.hid (HB0.out.grown g2 HB0.out.size (fun j e => by cases e; omega))
               have HDS5 := Lib.hid (DS.below HS.out HBW.out)
               have HR5 := Lib.hid (Rdv.below HR.out HBW.out)
               have k5 := HB5.out.cell (j := 0) (v := .int .i64 1) rfl
               have kf : W5.cell? ⟨w.heap.size + 1 + 1 + 1, 1, none⟩ = some (.func (.func 99) #[] #[.pointer (some ⟨w.heap.size + 1 + 1, 0, none⟩), .pointer (some ⟨w.heap.size + 1, 0, none⟩)]) := HA.out.cell rfl
               clear g1 g2 hL0 H3 H4 H5 HB0)
  refine (pass2_any (w.heap.size + 1 + 1) (w.heap.size + 1) 1 R rn rc xs W5 HR5.out hn HB5.out HB4.out).mono ?_
  rintro e w6 ⟨rfl, hB6⟩
  have HD6 := Lib.hid (DS.below HDS5.out hB6)
  have HR6 := Lib.hid (Rdv.below HR5.out hB6)
  have k63 := (HB3.out.below hB6).cell (j := 0) (v := .pointer (some ⟨D, 0, none⟩)) rfl
  have k64 := (HB4.out.below hB6).cell (j := 0) (v := .slice R rn rc) rfl
  have k6d := HD6.out.b.cell (j := 4) (v := .slice B bn bc) rfl
  have f6d := HD6.out.b.frozen 4
  have HBW6 := Lib.hid (HBW.out.trans (hB6.mono HBW.out.size))
  have hg : w6.grownBy (w6.setCell ⟨D, 4, none⟩ (.slice R rn rc)) (some D) := grownBy_set _ _ _ _
  have HF : Hid (DS (w6.setCell ⟨D, 4, none⟩ (.slice R rn rc)) D k vs a xs h V vc O oc I ic A ac R rn rc) := Lib.hid ⟨HD6.out.b.set 4 _, Rdv.grown HD6.out.v hg (nesome HD6.out.nv), Rdv.grown HD6.out.o hg (nesome HD6.out.no), Rdv.grown HD6.out.i hg (nesome HD6.out.ni), Rdv.grown HD6.out.a hg (nesome HD6.out.na), Rdv.grown HR6.out hg (nesome hrn), HD6.out.nv, HD6.out.no, HD6.out.ni, HD6.out.na, hrn⟩
  have HG : Hid (w.grownBy (w6.setCell ⟨D, 4, none⟩ (.slice R rn rc)) (some D)) := Lib.hid (below_grown HBW6.out hg)
  clear hB6 hg HA HB3 HB4 HB5 k5 kf
  generalize hp : (decide (Cr.chkErr 1 xs = 0)) = p
  have HP := Lib.hid hp
  clear hp
  go_wp2
  go_ret
  exact ⟨ret_bool HP.out.symm, HF.out, HG.out⟩
set_option maxRecDepth 100000 in
set_option maxHeartbeats 1000000 in
theorem passes2_any {D k : Nat} {vs a bs : List Int} {h : Nat} {V : Option Addr} {vc : Nat} {O : Option Addr} {oc : Nat} {I : Option Addr} {ic : Nat} {A : Option Addr} {ac : Nat} {B : Option Addr} {bn bc : Nat} (kind : Int) (hk : 1 < kind) (R : Option Addr) (rn rc : Nat) (xs : List Int) (w : World) (hs : DS w D k vs a bs h V vc O oc I ic A ac B bn bc) (hr : Rd .u8 w R rn rc xs) (hrn : R ≠ none → blk R ≠ D) (hh : h ≤ 100000) (hn : rn ≤ 100000) :
    Calls Tryz.prog 51 #[.pointer (some ⟨D, 0, none⟩), .slice R rn rc, .int .i64 kind] w fun e w' => e = .returned (.bool (decide (Cr.chkErr kind xs = 0))) ∧ DS w' D k vs a xs h V vc O oc I ic A ac R rn rc ∧ w.grownBy w' (some D) := by
  have hD := hs.b.lt
  have HB0 : Hid (Below w.heap.size w ((((w.alloc (.cells #[.pointer (some ⟨D, 0, none⟩)] 90)).alloc (.cells #[.slice R rn rc] 22)).alloc (.cells #[.int .i64 kind] 24)).alloc (.cells #[.nilFunc, .nilFunc] 151))) := Lib.hid (((((Below.refl _ w).alloc (Nat.le_refl _) _).alloc (by simp) _).alloc (by simp; omega) _).alloc (by simp; omega) _)
  have hL0 : Blk ((((w.alloc (.cells #[.pointer (some ⟨D, 0, none⟩)] 90)).alloc (.cells #[.slice R rn rc] 22)).alloc (.cells #[.int .i64 kind] 24)).alloc (.cells #[.nilFunc, .nilFunc] 151)) (w.heap.size + 1 + 1 + 1) 151 [.nilFunc, .nilFunc] := Blk.new (((w.alloc (.cells #[.pointer (some ⟨D, 0, none⟩)] 90)).alloc (.cells #[.slice R rn rc] 22)).alloc (.cells #[.int .i64 kind] 24)) [.nilFunc, .nilFunc] 151 (by simp)
  have H3 : Hid (Blk ((((w.alloc (.cells #[.pointer (some ⟨D, 0, none⟩)] 90)).alloc (.cells #[.slice R rn rc] 22)).alloc (.cells #[.int .i64 kind] 24)).alloc (.cells #[.nilFunc, .nilFunc] 151)) w.heap.size 90 [.pointer (some ⟨D, 0, none⟩)]) := Lib.hid ((((Blk.new w [.pointer (some ⟨D, 0, none⟩)] 90 rfl).alloc _).alloc _).alloc _)
  have H4 : Hid (Blk ((((w.alloc (.cells #[.pointer (some ⟨D, 0, none⟩)] 90)).alloc (.cells #[.slice R rn rc] 22)).alloc (.cells #[.int .i64 kind] 24)).alloc (.cells #[.nilFunc, .nilFunc] 151)) (w.heap.size + 1) 22 [.slice R rn rc]) := Lib.hid (((Blk.new (w.alloc (.cells #[.pointer (some ⟨D, 0, none⟩)] 90)) [.slice R rn rc] 22 (by simp)).alloc _).alloc _)
  have H5 : Hid (Blk ((((w.alloc (.cells #[.pointer (some ⟨D, 0, none⟩)] 90)).alloc (.cells #[.slice R rn rc] 22)).alloc (.cells #[.int .i64 kind] 24)).alloc (.cells #[.nilFunc, .nilFunc] 151)) (w.heap.size + 1 + 1) 24 [.int .i64 kind]) := Lib.hid ((Blk.new ((w.alloc (.cells #[.pointer (some ⟨D, 0, none⟩)] 90)).alloc (.cells #[.slice R rn rc] 22)) [.int .i64 kind] 24 (by simp)).alloc _)
  have HS := Lib.hid hs
  have HR := Lib.hid hr
  clear hs hr
  go_enter Tryz.func51, Tryz.ntmps51
  go_wp2_with (refine strow (cs := [.func (.func 97) #[] #[.pointer (some ⟨w.heap.size, 0, none⟩), .pointer (some ⟨w.heap.size + 1, 0, none⟩)], .func (.func 99) #[] #[.pointer (some ⟨w.heap.size + 1 + 1, 0, none⟩), .pointer (some ⟨w.heap.size + 1, 0, none⟩)]]) rfl 151 (.tmp 7) (.tmp 11) rfl rfl rfl hL0 rfl (by kernel_rfl) (by simp [Value.oneCell']) ?_
               intro W5 g1 g2
               have HA := Lib.hid g1
               have HB3 := Lib.hid (H3.out.grown g2 (by simp; omega))
               have HB4 := Lib.hid (H4.out.grown g2 (by simp))
               have HB5 := Lib.hid (H5.out.grown g2 (by simp))
               have HBW := Lib.hid (HB0.out.grown g2 HB0.out.size (fun j e => by cases e; omega))
               have HDS5 := Lib.hid (DS.below HS.out HBW.out)
               have HR5 := Lib.hid (Rdv.below HR.out HBW.out)
               have k5 := HB5.out.cell (j := 0) (v := .int .i64 kind) rfl
               have kf : W5.cell? ⟨w.heap.size + 1 + 1 + 1, 1, none⟩ = some (.func (.func 99) #[] #[.pointer (some ⟨w.heap.size + 1 + 1, 0, none⟩), .pointer (some ⟨w.heap.size + 1, 0, none⟩)]) := HA.out.cell rfl
               clear g1 g2 hL0 H3 H4 H5 HB0)
  refine (pass2_any (w.heap.size + 1 + 1) (w.heap.size + 1) kind R rn rc xs W5 HR5.out hn HB5.out HB4.out).mono ?_
  rintro e w6 ⟨rfl, hB6⟩
  have HD6 := Lib.hid (DS.below HDS5.out hB6)
  have HR6 := Lib.hid (Rdv.below HR5.out hB6)
  have k63 := (HB3.out.below hB6).cell (j := 0) (v := .pointer (some ⟨D, 0, none⟩)) rfl
  have k64 := (HB4.out.below hB6).cell (j := 0) (v := .slice R rn rc) rfl
  have k6d := HD6.out.b.cell (j := 4) (v := .slice B bn bc) rfl
  have f6d := HD6.out.b.frozen 4
  have HBW6 := Lib.hid (HBW.out.trans (hB6.mono HBW.out.size))
  have hg : w6.grownBy (w6.setCell ⟨D, 4, none⟩ (.slice R rn rc)) (some D) := grownBy_set _ _ _ _
  have HF : Hid (DS (w6.setCell ⟨D, 4, none⟩ (.slice R rn rc)) D k vs a xs h V vc O oc I ic A ac R rn rc) := Lib.hid ⟨HD6.out.b.set 4 _, Rdv.grown HD6.out.v hg (nesome HD6.out.nv), Rdv.grown HD6.out.o hg (nesome HD6.out.no), Rdv.grown HD6.out.i hg (nesome HD6.out.ni), Rdv.grown HD6.out.a hg (nesome HD6.out.na), Rdv.grown HR6.out hg (nesome hrn), HD6.out.nv, HD6.out.no, HD6.out.ni, HD6.out.na, hrn⟩
  have HG : Hid (w.grownBy (w6.setCell ⟨D, 4, none⟩ (.slice R rn rc)) (some D)) := Lib.hid (below_grown HBW6.out hg)
  clear hB6 hg HA HB3 HB4 HB5 k5 kf
  generalize hp : (decide (Cr.chkErr kind xs = 0)) = p
  have HP := Lib.hid hp
  clear hp
  go_wp2
  go_ret
  exact ⟨ret_bool HP.out.symm, HF.out, HG.out⟩
end Go.Proofs.YtpdalbckmfadbaaGreat

namespace Go.Proofs.YtpdalbckmfadbaaGreat
open Go.RowKit
set_option linter.unusedVariables false
attribute [local go_sem] Oper.semAt_some
theorem dEs_bd (o : Ob) (i : Nat) : -127 ≤ gi o.dE i ∧ gi o.dE i ≤ 127 := by
  unfold Ob.dE
  split
  · rcases Nat.lt_or_ge i o.a.length with h | h
    · rw [gi_range _ h]; unfold Ob.eT; exact ext_bd _
    · rw [gi_over (by simpa using h)]; omega
  · rw [gi_over (by simp)]; omega
theorem soft_gi {vs : List Int} (h : SoftB vs = true) (i : Nat) : -127 ≤ gi vs i ∧ gi vs i ≤ 127 := by
  rcases Nat.lt_or_ge i vs.length with h1 | h1
  · exact softB_mem h _ (gi_mem vs i h1)
  · rw [gi_over h1]; omega
theorem pk_bd {xs : List Int} (h : ∀ i, -127 ≤ gi xs i ∧ gi xs i ≤ 127) (l : List Int) : ∀ v ∈ pk xs l, -127 ≤ v ∧ v ≤ 127 := fun v hv => by
  unfold pk at hv
  obtain ⟨i, -, rfl⟩ := List.mem_map.1 hv
  exact h _
theorem bkL_len (k code : Nat) : (bkL k code).length = k := by
  unfold bkL; split
  · exact Tu.ordL_len k
  · exact inv_len
theorem apN_ok (vs : List Int) (k : Nat) : ∀ h, (apN vs k h).length = k ∧ ∀ v ∈ apN vs k h, -127 ≤ v ∧ v ≤ 127
  | 0 => ⟨List.length_replicate .., fun v hv => by have := List.eq_of_mem_replicate hv; omega⟩
  | h + 1 => ⟨by show (pk _ _).length = k; rw [pk_len, bkL_len], pk_bd (dEs_bd _) _⟩
theorem obN_ok {vs : List Int} {k : Nat} (hv : SoftB vs = true) (hk : 1 ≤ k ∧ k ≤ 6144) (h : Nat) : (obN vs k h).ok := by
  obtain ⟨h1, h2⟩ := apN_ok vs k h
  refine ⟨by show 1 ≤ (apN vs k h).length; omega, by show (apN vs k h).length ≤ _; omega, by show (pk _ _).length = (apN vs k h).length + 3; rw [pk_len, sys_len, h1], by show (pk _ _).length = (apN vs k h).length + 3; rw [pk_len, par_len, h1], pk_bd (soft_gi hv) _, pk_bd (soft_gi hv) _, h2⟩
/-- the decisions before -/
noncomputable def befN (vs : List Int) (k : Nat) : Nat → List Int
  | 0 => []
  | h + 1 => decN vs k h
/-- the decisions of half-iteration h + 1 pass -/
noncomputable def okN (kind : Int) (vs : List Int) (k h : Nat) : Bool := if kind = 0 then decide (2 ≤ h + 1) && decide (decN vs k h = befN vs k h) else decide (Cr.chkErr kind (decN vs k h) = 0)
theorem cd_odd {h : Nat} (e : (h + 1) % 2 = 1) : cdN (h + 1) = 1 := by unfold cdN; rw [if_pos e]
theorem cd_even {h : Nat} (e : (h + 1) % 2 = 0) : cdN (h + 1) = 2 := by unfold cdN; rw [if_neg (by omega)]
/-- the state of a decoder behind h half-iterations -/
def StN (W : World) (D k : Nat) (vs : List Int) (h : Nat) : Prop := ∃ V vc O oc I ic A ac B bn bc, DS W D k vs (apN vs k h) (befN vs k h) h V vc O oc I ic A ac B bn bc
theorem StN.lt {W : World} {D k : Nat} {vs : List Int} {h : Nat} (hs : StN W D k vs h) : D < W.heap.size := by
  obtain ⟨V, vc, O, oc, I, ic, A, ac, B, bn, bc, hd⟩ := hs
  exact hd.b.lt
/-- a half-iteration -/
theorem next_any (D k u h : Nat) (vs : List Int) (w : World) (hu : k = Tu.szK u) (hs : StN w D k vs h) (hv : SoftB vs = true) (hh : h ≤ 1000) :
    Calls Tryz.prog 50 #[.pointer (some ⟨D, 0, none⟩)] w fun e w' => ∃ R rc V vc O oc I ic A ac B bn bc, e = .returned (.slice R k rc) ∧ Rd .u8 w' R k rc (decN vs k h) ∧ (R ≠ none → w.heap.size ≤ blk R) ∧ DS w' D k vs (apN vs k (h + 1)) (befN vs k h) (h + 1) V vc O oc I ic A ac B bn bc ∧ w.grownBy w' (some D) := by
  obtain ⟨V, vc, O, oc, I, ic, A, ac, B, bn, bc, hd⟩ := hs
  have hval : Tu.validK (k : Int) = true := by rw [hu]; exact Tu.szK_valid u
  have hb := Tu.szK_bd u
  rw [← hu] at hb
  have hok := obN_ok (vs := vs) (k := k) hv ⟨by omega, by omega⟩ h
  rcases Nat.mod_two_eq_zero_or_one (h + 1) with e | e
  · have c := cd_even e
    have eo : obN vs k h = obH vs k 2 (apN vs k h) := by unfold obN; rw [c]
    rw [eo] at hok
    refine (next2_any D k h vs (apN vs k h) (befN vs k h) V vc O oc I ic A ac B bn bc w hd hval hok (fun j hj => ?_) hh e).mono ?_
    · obtain ⟨p, e1, e2⟩ := sys_bd hu (.inr rfl) hj
      obtain ⟨q, e3, e4⟩ := par_bd (k := k) (code := 2) (.inr rfl) hj
      rw [e1, e3]; omega
    · rintro en w' ⟨R, rc, A', ac', rfl, h1, h2, h3, h4⟩
      refine ⟨R, rc, V, vc, O, oc, I, ic, A', ac', B, bn, bc, rfl, ?_, h2, ?_, h4⟩
      · unfold decN; rw [c, eo]; exact h1
      · have : apN vs k (h + 1) = pk (obH vs k 2 (apN vs k h)).dE (bkL k 2) := by show pk (obH vs k (cdN (h + 1)) _).dE (bkL k (cdN (h + 1))) = _; rw [c]
        rw [this]; exact h3
  · have c := cd_odd e
    have eo : obN vs k h = obH vs k 1 (apN vs k h) := by unfold obN; rw [c]
    rw [eo] at hok
    refine (next1_any D k h vs (apN vs k h) (befN vs k h) V vc O oc I ic A ac B bn bc w hd hval hok (fun j hj => ?_) hh e).mono ?_
    · obtain ⟨p, e1, e2⟩ := sys_bd hu (.inl rfl) hj
      obtain ⟨q, e3, e4⟩ := par_bd (k := k) (code := 1) (.inl rfl) hj
      rw [e1, e3]; omega
    · rintro en w' ⟨R, rc, A', ac', rfl, h1, h2, h3, h4⟩
      refine ⟨R, rc, V, vc, O, oc, I, ic, A', ac', B, bn, bc, rfl, ?_, h2, ?_, h4⟩
      · unfold decN; rw [c, eo]; exact h1
      · have : apN vs k (h + 1) = pk (obH vs k 1 (apN vs k h)).dE (bkL k 1) := by show pk (obH vs k (cdN (h + 1)) _).dE (bkL k (cdN (h + 1))) = _; rw [c]
        rw [this]; exact h3
theorem pass_any (D k h : Nat) (vs : List Int) (kind : Int) (R : Option Addr) (rc : Nat) (V : Option Addr) (vc : Nat) (O : Option Addr) (oc : Nat) (I : Option Addr) (ic : Nat) (A : Option Addr) (ac : Nat) (B : Option Addr) (bn bc : Nat) (w : World) (hk : 0 ≤ kind) (hs : DS w D k vs (apN vs k (h + 1)) (befN vs k h) (h + 1) V vc O oc I ic A ac B bn bc) (hr : Rd .u8 w R k rc (decN vs k h)) (hrn : R ≠ none → blk R ≠ D) (hh : h ≤ 1000) (hn : k ≤ 6144) :
    Calls Tryz.prog 51 #[.pointer (some ⟨D, 0, none⟩), .slice R k rc, .int .i64 kind] w fun e w' => e = .returned (.bool (okN kind vs k h)) ∧ StN w' D k vs (h + 1) ∧ Rd .u8 w' R k rc (decN vs k h) ∧ w'.cell? ⟨D, 5, none⟩ = some (.int .i64 ((h + 1 : Nat) : Int)) ∧ w.grownBy w' (some D) := by
  have fin : ∀ {p : Bool} {e : Ending} {w' : World}, okN kind vs k h = p → (e = .returned (.bool p) ∧ DS w' D k vs (apN vs k (h + 1)) (decN vs k h) (h + 1) V vc O oc I ic A ac R k rc ∧ w.grownBy w' (some D)) → (e = .returned (.bool (okN kind vs k h)) ∧ StN w' D k vs (h + 1) ∧ Rd .u8 w' R k rc (decN vs k h) ∧ w'.cell? ⟨D, 5, none⟩ = some (.int .i64 ((h + 1 : Nat) : Int)) ∧ w.grownBy w' (some D)) := by
    rintro p e w' hp ⟨h1, h2, h3⟩
    exact ⟨by rw [hp]; exact h1, ⟨V, vc, O, oc, I, ic, A, ac, R, k, rc, h2⟩, h2.p, h2.b.cell rfl, h3⟩
  rcases (by omega : kind = 0 ∨ kind = 1 ∨ 1 < kind) with h0 | h0 | h0
  · rw [h0] at fin ⊢
    exact (passes0_any R k rc (decN vs k h) w hs hr hrn (by omega) (by omega)).mono fun e w' hp => fin (by unfold okN; rw [if_pos rfl]) hp
  · rw [h0] at fin ⊢
    exact (passes1_any R k rc (decN vs k h) w hs hr hrn (by omega) (by omega)).mono fun e w' hp => fin (by unfold okN; rw [if_neg (by decide)]) hp
  · exact (passes2_any kind h0 R k rc (decN vs k h) w hs hr hrn (by omega) (by omega)).mono fun e w' hp => fin (by unfold okN; rw [if_neg (by omega)]) hp
/-- what Decode gives for arguments without error -/
def DcP (k : Nat) (vs : List Int) (kind : Int) (most : Nat) (w : World) (e : Ending) (w' : World) : Prop :=
  Below w.heap.size w w' ∧ ((∃ h, h < most ∧ okN kind vs k h = true ∧ (∀ q, q < h → okN kind vs k q = false) ∧ ∃ R rc, e = .returned (.tuple #[.slice R k rc, .int .i64 ((h + 1 : Nat) : Int), .int .i64 0]) ∧ Rd .u8 w' R k rc (decN vs k h) ∧ (R ≠ none → w.heap.size ≤ blk R)) ∨
    ((∀ q, q < most → okN kind vs k q = false) ∧ e = .returned (.tuple #[.slice none 0 0, .int .i64 0, .int .i64 11])))
def DcI (w : World) (D k : Nat) (vs : List Int) (kind : Int) (most : Nat) (i : Value) (wr : World) : Prop := ∃ h : Nat, h ≤ most ∧ i = .int .i64 (h : Int) ∧ StN wr D k vs h ∧ (∀ q, q < h → okN kind vs k q = false) ∧ Below w.heap.size w wr
set_option maxRecDepth 100000 in
set_option maxHeartbeats 2000000 in
theorem decode_half (S : Option Addr) (k u cs : Nat) (vs : List Int) (kind : Int) (most : Nat) (w : World) (h : Rd .i64 w S (3 * (k + 4)) cs vs) (hu : k = Tu.szK u) (hk : 0 ≤ kind ∧ kind ≤ 4) (hm : 1 ≤ most ∧ most ≤ 64) (hs : SoftB vs = true) :
    Calls Tryz.prog 15 #[.slice S (3 * (k + 4)) cs, .int .i64 kind, .int .i64 (most : Int)] w (DcP k vs kind most w) := by
  have hval : Tu.validK (k : Int) = true := by rw [hu]; exact Tu.szK_valid u
  have hb := Tu.szK_bd u
  rw [← hu] at hb
  have HBG := Lib.hid (begun_ok S k cs vs kind (most : Int) w h hval hk (by omega) hs)
  have HNX := Lib.hid (fun D h W hst hh => next_any D k u h vs W hu hst hs hh)
  have HPS := Lib.hid (fun D h R rc V vc O oc I ic A ac B bn bc W h1 h2 h3 hh => pass_any D k h vs kind R rc V vc O oc I ic A ac B bn bc W hk.1 h1 h2 h3 hh (by omega))
  have HM := Lib.hid hm
  clear h hu hs hval hb hk
  go_enter Tryz.func15, Tryz.ntmps15
  go_wp2_with fail
  refine HBG.out.mono ?_
  rintro e w1 ⟨D, V, vc, O, oc, I, ic, A, ac, rfl, hDS, hD, hB⟩
  have HST : Hid (StN w1 D k vs 0) := Lib.hid ⟨V, vc, O, oc, I, ic, A, ac, none, 0, 0, hDS⟩
  have HD := Lib.hid hD
  have HB := Lib.hid hB
  clear hDS hD hB
  go_wp2_with fail
  go_loopw [22] (fun i wr => DcI w D k vs kind most i wr) (fun i _ => most - (intOf i).toNat)
  case atStart => exact ⟨0, by omega, rfl, HST.out, fun q hq => by omega, HB.out⟩
  case round =>
    obtain ⟨h, hh, rfl, hst, hno, hB⟩ := hrel
    have HNO := Lib.hid hno
    have HBr := Lib.hid hB
    have hm2 : most ≤ 64 := HM.out.2
    have HX := Lib.hid (HNX.out D h wr hst (by omega))
    have HDL := Lib.hid (StN.lt hst)
    clear hno hB hst
    by_cases hlt : h < most
    · go_wp2_with fail
      refine HX.out.mono ?_
      rintro e w2 ⟨R, rc, V, vc, O, oc, I, ic, A, ac, B, bn, bc, rfl, hr, hrn, hds, hg⟩
      have HPX := Lib.hid (HPS.out D h R rc V vc O oc I ic A ac B bn bc w2 hds hr (fun hA => by have := hrn hA; have := HDL.out; omega) (by omega))
      have HRB := Lib.hid (fun hA => Nat.le_trans HBr.out.size (hrn hA))
      have HB2 := Lib.hid (HBr.out.grown hg HBr.out.size (fun j e => by cases e; exact HD.out))
      clear hr hrn hds hg
      go_wp2_with fail
      refine HPX.out.mono ?_
      rintro e w3 ⟨rfl, hst, hrd, hc5, hg⟩
      have HS3 := Lib.hid hst
      have HR3 := Lib.hid hrd
      have HB3 := Lib.hid (HB2.out.grown hg HB2.out.size (fun j e => by cases e; exact HD.out))
      clear hst hrd hg
      obtain ⟨p, hp⟩ : ∃ p, p = okN kind vs k h := ⟨_, rfl⟩
      rw [← hp]
      have HP := Lib.hid hp
      clear hp
      cases p with
      | true =>
        go_wp2_with fail
        go_quiet (fail)
        go_wp2
        go_ret3
        exact ⟨HB3.out.trans (Qt.below ⟨nq, rfl⟩ _), .inl ⟨h, hlt, HP.out.symm, HNO.out, R, rc, rfl, Rdv.drewN HR3.out nq, HRB.out⟩⟩
      | false =>
        go_wp2
        go_roundw
        case rel => exact ⟨h + 1, by omega, by go_num, HS3.out, lt_succ_cases HNO.out HP.out.symm, HB3.out⟩
        case measure => simp [intOf]; omega
    · obtain rfl : h = most := by omega
      clear HX
      go_wp2
      go_ret3
      exact ⟨HBr.out, .inr ⟨HNO.out, rfl⟩⟩
end Go.Proofs.YtpdalbckmfadbaaGreat

namespace Go.Proofs.YtpdalbckmfadbaaGreat
open Go.RowKit
set_option linter.unusedVariables false
attribute [local go_sem] Oper.semAt_some
/-- the block size of so many values -/
def kOf (vs : List Int) : Nat := vs.length / 3 - 4
/-- the first half-iteration that passes -/
noncomputable def fdN (vs : List Int) (kind : Int) (most : Int) : Option Nat := (List.range most.toNat).find? (okN kind vs (kOf vs))
noncomputable def itE (vs : List Int) (kind most : Int) : Int := if wrE vs kind most = 0 then (match fdN vs kind most with | some _ => 0 | none => 11) else wrE vs kind most
noncomputable def itH (vs : List Int) (kind most : Int) : Int := if wrE vs kind most = 0 then (match fdN vs kind most with | some h => ((h + 1 : Nat) : Int) | none => 0) else 0
noncomputable def itD (vs : List Int) (kind most : Int) : List Int := if wrE vs kind most = 0 then (match fdN vs kind most with | some h => decN vs (kOf vs) h | none => []) else []
theorem wrE_zero {vs : List Int} {kind most : Int} (h : wrE vs kind most = 0) : vs.length % 3 = 0 ∧ Tu.validK ((vs.length : Int) / 3 - 4) = true ∧ (0 ≤ kind ∧ kind ≤ 4) ∧ (1 ≤ most ∧ most ≤ 64) ∧ SoftB vs = true := by
  unfold wrE at h
  split at h
  · cases h
  · rename_i hc
    split at h
    · rename_i hs
      refine ⟨by omega, ?_, by omega, by omega, hs⟩
      cases hv : Tu.validK ((vs.length : Int) / 3 - 4) with
      | true => rfl
      | false => exact absurd (.inr (.inl hv)) hc
    · cases h
theorem valid_szK {k : Nat} (h : Tu.validK (k : Int) = true) (hk : k ≤ 512) : ∃ u, k = Tu.szK u := by
  unfold Tu.validK at h
  rw [decide_eq_true_iff] at h
  refine ⟨(k - 40) / 8, ?_⟩
  unfold Tu.szK
  omega
def DcA (vs : List Int) (kind most : Int) (w : World) (e : Ending) (w' : World) : Prop :=
  ∃ R n rc, e = .returned (.tuple #[.slice R n rc, .int .i64 (itH vs kind most), .int .i64 (itE vs kind most)]) ∧ Rd .u8 w' R n rc (itD vs kind most) ∧ (R ≠ none → w.heap.size ≤ blk R) ∧ Below w.heap.size w w'
set_option maxRecDepth 100000 in
set_option maxHeartbeats 1000000 in
theorem dec_any (S : Option Addr) (n cs : Nat) (vs : List Int) (kind most : Int) (w : World) (h : Rd .i64 w S n cs vs) (hn : n ≤ 600) :
    Calls Tryz.prog 15 #[.slice S n cs, .int .i64 kind, .int .i64 most] w (DcA vs kind most w) := by
  have hl := Rd.len h
  by_cases hE : wrE vs kind most = 0
  · obtain ⟨h3, hv, hk, hm, hs⟩ := wrE_zero hE
    have hkb := Tu.valid_bd hv
    have hkn : ((vs.length : Int) / 3 - 4) = ((kOf vs : Nat) : Int) := by unfold kOf; omega
    rw [hkn] at hv hkb
    have hn3 : n = 3 * (kOf vs + 4) := by omega
    obtain ⟨u, hu⟩ := valid_szK hv (by unfold kOf; omega)
    obtain ⟨m, rfl⟩ := Int.eq_ofNat_of_zero_le (show 0 ≤ most by omega)
    rw [hn3] at h ⊢
    refine (decode_half S (kOf vs) u cs vs kind m w h hu hk (by omega) hs).mono ?_
    rintro e w' ⟨hB, ⟨j, h1, h2, h3, R, rc, rfl, hR, hF⟩ | ⟨h1, rfl⟩⟩
    · have hf : fdN vs kind (m : Int) = some j := by
        unfold fdN
        rw [Int.toNat_natCast, List.find?_range_eq_some]
        exact ⟨h2, List.mem_range.2 h1, fun q hq => by rw [h3 q hq]; rfl⟩
      refine ⟨R, kOf vs, rc, ?_, ?_, hF, hB⟩
      · unfold itH itE; rw [if_pos hE, if_pos hE, hf]
      · unfold itD; rw [if_pos hE, hf]; exact hR
    · have hf : fdN vs kind (m : Int) = none := by
        unfold fdN
        rw [Int.toNat_natCast, List.find?_eq_none]
        intro q hq
        rw [h1 q (List.mem_range.1 hq)]; decide
      refine ⟨none, 0, 0, ?_, ?_, fun h => absurd rfl h, hB⟩
      · unfold itH itE; rw [if_pos hE, if_pos hE, hf]
      · unfold itD; rw [if_pos hE, hf]; exact Rd.nilv .u8 _
  · have e1 : itH vs kind most = 0 := by unfold itH; rw [if_neg hE]
    have e2 : itE vs kind most = wrE vs kind most := by unfold itE; rw [if_neg hE]
    have e3 : itD vs kind most = [] := by unfold itD; rw [if_neg hE]
    unfold DcA
    rw [e1, e2, e3]
    clear e1 e2 e3
    have HBG : ∃ E : Int, wrE vs kind most = E ∧ E ≠ 0 ∧ Calls Tryz.prog 49 #[.slice S n cs, .int .i64 kind, .int .i64 most] w fun e w' => e = .returned (.tuple #[.pointer none, .int .i64 E]) ∧ Below w.heap.size w w' := by
      by_cases hc : vs.length % 3 ≠ 0 ∨ Tu.validK ((vs.length : Int) / 3 - 4) = false ∨ kind < 0 ∨ 4 < kind ∨ most < 1 ∨ 64 < most
      · exact ⟨2, by unfold wrE; rw [if_pos hc], by decide, begun_bad S n cs vs kind most w h (by omega) hc⟩
      · by_cases hs : SoftB vs = true
        · exact absurd (by unfold wrE; rw [if_neg hc, if_pos hs]) hE
        · refine ⟨6, by unfold wrE; rw [if_neg hc, if_neg hs], by decide, begun_soft S n cs vs kind most w h (by omega) (by omega) ?_ (by omega) (by omega) (by simpa using hs)⟩
          rw [← hl]
          cases hv : Tu.validK ((vs.length : Int) / 3 - 4) with
          | true => rfl
          | false => exact absurd (.inr (.inl hv)) hc
    obtain ⟨E, hEe, hE0, hcall⟩ := HBG
    have HC := Lib.hid hcall
    have q := bne_t hE0
    rw [hEe]
    clear hcall hE0 hEe hE h hl
    go_enter Tryz.func15, Tryz.ntmps15
    go_wp2_with fail
    refine HC.out.mono ?_
    rintro e w1 ⟨rfl, hB⟩
    go_wp2
    go_ret3
    exact ⟨none, 0, 0, rfl, Rd.nilv .u8 _, fun h => absurd rfl h, hB⟩
end Go.Proofs.YtpdalbckmfadbaaGreat

namespace Go.Proofs.YtpdalbckmfadbaaGreat
open Go.RowKit
set_option linter.unusedVariables false
theorem idx_ex (P : Nat → Nat) (n v : Nat) (hi : ∀ i j, i < n → j < n → P i = P j → i = j) : ∃ f, ∀ j, j < n → (P j = v ↔ j = f) := by
  by_cases h : ∃ j, j < n ∧ P j = v
  · obtain ⟨f, hf, e⟩ := h
    exact ⟨f, fun j hj => ⟨fun h1 => hi j f hj hf (h1.trans e.symm), fun h1 => by rw [h1]; exact e⟩⟩
  · exact ⟨n, fun j hj => ⟨fun h1 => absurd ⟨j, hj, h1⟩ h, fun h1 => by omega⟩⟩
/-- where the values of the first code lie -/
def pos1 (k j : Nat) : Nat := if j < k + 3 then (if j < k then j else if j = k then k else if j = k + 1 then 3 * k + 8 else 2 * k + 5) else (if j < 2 * k + 3 then k + 4 + (j - (k + 3)) else if j = 2 * k + 3 then 2 * k + 4 else if j = 2 * k + 4 then k + 1 else 3 * k + 9)
theorem pos1_inj (k i j : Nat) (hi : i < 2 * (k + 3)) (hj : j < 2 * (k + 3)) (e : pos1 k i = pos1 k j) : i = j := by
  unfold pos1 at e
  repeat (first | omega | split at e)
theorem gi_app_l {a b : List Int} {j : Nat} (h : j < a.length) : gi (a ++ b) j = gi a j := by
  unfold gi; rw [List.getD_eq_getElem?_getD, List.getD_eq_getElem?_getD, List.getElem?_append_left h]
theorem gi_app_r {a b : List Int} {i j : Nat} (h : i = a.length + j) : gi (a ++ b) i = gi b j := by
  subst h
  unfold gi; rw [List.getD_eq_getElem?_getD, List.getD_eq_getElem?_getD, List.getElem?_append_right (by omega), show a.length + j - a.length = j by omega]
theorem sysP_len (k code j : Nat) : (Tu.sysP k code j).length = j := by simp [Tu.sysP]
theorem parP_len (k code j : Nat) : (Tu.parP k code j).length = j := by simp [Tu.parP]
theorem sys1_pos {k j : Nat} (hj : j < k + 3) : gi (Tu.sysL k 1) j = (pos1 k j : Int) := by
  have ha : Tu.atN k 1 = k := by unfold Tu.atN; omega
  rw [Tu.sysL_eq, ha]
  unfold pos1
  rw [if_pos hj]
  by_cases h : j < k
  · rw [gi_app_l (by rw [sysP_len]; exact h), if_pos h]
    unfold Tu.sysP
    rw [gi_range _ h, Tu.rng_gi h]
  · rw [if_neg h, gi_app_r (j := j - k) (by rw [sysP_len]; omega)]
    rcases (by omega : j = k ∨ j = k + 1 ∨ j = k + 2) with e | e | e
    · rw [if_pos e, show j - k = 0 by omega]; rfl
    · rw [if_neg (by omega), if_pos e, show j - k = 1 by omega]; simp [gi]; omega
    · rw [if_neg (by omega), if_neg (by omega), show j - k = 2 by omega]; simp [gi]; omega
theorem par1_pos {k j : Nat} (hj : j < k + 3) : gi (Tu.parI k 1) j = (pos1 k (k + 3 + j) : Int) := by
  have ha : Tu.atN k 1 = k := by unfold Tu.atN; omega
  rw [Tu.parI_eq, ha]
  unfold pos1
  rw [if_neg (by omega)]
  by_cases h : j < k
  · rw [gi_app_l (by rw [parP_len]; exact h), if_pos (by omega)]
    unfold Tu.parP
    rw [gi_range _ h]
    omega
  · rw [if_neg (by omega), gi_app_r (j := j - k) (by rw [parP_len]; omega)]
    rcases (by omega : j = k ∨ j = k + 1 ∨ j = k + 2) with e | e | e
    · rw [if_pos (by omega), show j - k = 0 by omega]; simp [gi]; omega
    · rw [if_neg (by omega), if_pos (by omega), show j - k = 1 by omega]; simp [gi]
    · rw [if_neg (by omega), if_neg (by omega), show j - k = 2 by omega]; simp [gi]; omega
theorem sgM_of {M : Int} {x y x' y' p j : Nat} (hx : p = x ↔ j = x') (hy : p = y ↔ j = y') : sgM M x y p = sgM M x' y' j := by
  unfold sgM; simp only [hx, hy]
theorem hold_one {k u : Nat} (hk : k = Tu.szK u) (hk2 : k ≤ 200) {x : List Bool} {vs : List Int} {M : Int} (hM : 1 ≤ M ∧ M ≤ 127) (hx : x.length = k) (y z : Nat)
    (hv : ∀ q, q < 3 * (k + 4) → gi vs q = sgM M y z q * (1 - 2 * (bq (Tu.gB (Tu.wrd x) q) : Int))) : decN vs k 0 = x.map ib := by
  have hb := Tu.szK_bd u
  rw [← hk] at hb
  obtain ⟨y', hy⟩ := idx_ex (pos1 k) (2 * (k + 3)) y (pos1_inj k)
  obtain ⟨z', hz⟩ := idx_ex (pos1 k) (2 * (k + 3)) z (pos1_inj k)
  have hw : ∀ (L : List Int) (R : List Bool) (P : Nat → Nat), L.length = k + 3 → (∀ j, j < k + 3 → gi L j = (P j : Int)) → Tu.selB (Tu.wrd x) L = R → ∀ j, j < k + 3 → R.getD j false = Tu.gB (Tu.wrd x) (P j) := by
    intro L R P hl hp hs j hj
    rw [← hs]
    unfold Tu.selB
    rw [List.getD_eq_getElem?_getD, List.getElem?_map, List.getElem?_eq_getElem (by rw [hl]; exact hj), ← gi_eq _ _ (by rw [hl]; exact hj), hp j hj]
    rfl
  have pb : ∀ j, j < 2 * (k + 3) → pos1 k j < 3 * (k + 4) := fun j hj => by unfold pos1; repeat (first | omega | split)
  refine (holds_plain hM ⟨by omega, hk2⟩ y' z' hx (obH vs k 1 (List.replicate k 0)) (by show (pk _ _).length = _; rw [pk_len, sys_len]) (by show (pk _ _).length = _; rw [pk_len, par_len]) rfl (fun j hj => ?_) (fun j hj => ?_)).2
  · show gi (pk vs _) j = _
    rw [gi_pk (by rw [sys_len]; exact hj), sys1_pos hj, Int.toNat_natCast, hv _ (pb j (by omega)), sgM_of (hy j (by omega)) (hz j (by omega))]
    rw [← hw _ _ _ (sys_len k 1) (fun j hj => sys1_pos hj) (Tu.sel_sys hx hk (.inl rfl)) j hj]
    rfl
  · show gi (pk vs _) j = _
    rw [gi_pk (by rw [par_len]; exact hj), par1_pos hj, Int.toNat_natCast, hv _ (pb _ (by omega)), sgM_of (hy _ (by omega)) (hz _ (by omega))]
    rw [← hw _ _ (fun j => pos1 k (k + 3 + j)) (par_len k 1) (fun j hj => par1_pos hj) (Tu.sel_par hx (.inl rfl)) j hj]
    rfl
end Go.Proofs.YtpdalbckmfadbaaGreat

