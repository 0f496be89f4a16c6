/- A step of the arguments, opened; a nil process. Conditions: none. -/
import Derived.Test.YtkdfefpnhaebfaaGreatBuobq
import Derived.Deep.Slices
import Derived.Lib.SmallJoins
set_option linter.unusedVariables false
set_option linter.unusedSimpArgs false
namespace Go.Proofs.YtkdfefpnhaebfaaGreat
open Go.RowKit Go.ChangeShapes Go.WideShapes Go.Deep Go.Joins
set_option linter.unusedVariables false
set_option maxRecDepth 100000
structure ActV where
 kd : Int
 s : Int
 bt : Int
 md : Int
 lm : Int
 rv : Int
 fr : Bool
 A : Option Addr
 n : Nat
 c : Nat
 xs : List Int
def ActV.cf (a : ActV) : List Value := [.int .i64 a.s, .int .i64 a.bt, .int .i64 a.md, .int .i64 a.lm, .int .i64 a.rv]
def ActV.cells (a : ActV) : List Value := [.int .i64 a.kd, .int .i64 a.s, .int .i64 a.bt, .int .i64 a.md, .int .i64 a.lm, .int .i64 a.rv, .bool a.fr, .slice a.A a.n a.c]
structure ActV.ok (a : ActV) (w : World) : Prop where
 v : Rd .i64 w a.A a.n a.c a.xs
 s : (Lit.int .i64 a.s).wf = true
 bt : (Lit.int .i64 a.bt).wf = true
 md : (Lit.int .i64 a.md).wf = true
 lm : (Lit.int .i64 a.lm).wf = true
 rv : (Lit.int .i64 a.rv).wf = true
 kd : (Lit.int .i64 a.kd).wf = true
theorem ActV.ok.below {a : ActV} {w w' : World} (h : a.ok w) (hB : Below w.heap.size w w') : a.ok w' := ⟨Rdv.below h.v hB, h.s, h.bt, h.md, h.lm, h.rv, h.kd⟩
section
variable {H : Type} {enc : TypeId × Value → H} {w : World} {base : Nat} {held : Bool}
theorem trod_ints {fuel : Nat} {cs : List Value} {x : DataW H × List MemPlace} (h : DataW.trod enc Tryz.prog w base (fun _ => true) held fuel 39 cs = some x) :
 ∃ A n c xs, cs = [.slice A n c] ∧ Rd .i64 w A n c xs := by
 rcases open_ints Tryz.underlying39 Tryz.underlying3 (by kernel_rfl) h with ⟨hcs, _⟩ | ⟨a, l, c, zs, hcs, _, hl, hm, hz, _, hcell, hwz⟩
 · exact ⟨none, 0, 0, [], hcs, Rd.nilv _ _⟩
 · exact ⟨some a, l, c, zs.take l, hcs, (rd_of_row (.inr ⟨a, rfl, hl, hm, by simpa using hz, hcell, hwz⟩)).1⟩
theorem trod_cf {fuel : Nat} {cs : List Value} {x : DataW H × List MemPlace} (h : DataW.trod enc Tryz.prog w base (fun _ => true) held fuel 36 cs = some x) :
 ∃ s bt md lm rv, cs = [.int .i64 s, .int .i64 bt, .int .i64 md, .int .i64 lm, .int .i64 rv] ∧ (Lit.int .i64 s).wf = true ∧ (Lit.int .i64 bt).wf = true ∧ (Lit.int .i64 md).wf = true ∧ (Lit.int .i64 lm).wf = true ∧ (Lit.int .i64 rv).wf = true := by
 obtain ⟨xs, n, _, rfl, hl, hlen, hf⟩ := DataW.trod_struct Tryz.underlying36 h
 have hc : Tryz.prog.cellsOf 36 = 5 := by kernel_rfl
 have k3 : Tryz.prog.cellsOf 3 = 1 := by kernel_rfl
 have k38 : Tryz.prog.cellsOf 34 = 1 := by kernel_rfl
 rw [hc] at hl
 match cs, hl, xs, hlen with
 | [c0, c1, c2, c3, c4], _, [y0, y1, y2, y3, y4], _ =>
   have g0 := hf 0 _ rfl
   have g1 := hf 1 _ rfl
   have g2 := hf 2 _ rfl
   have g3 := hf 3 _ rfl
   have g4 := hf 4 _ rfl
   simp [k3, k38] at g0 g1 g2 g3 g4
   obtain ⟨s, e0, -, h0⟩ := DataW.trod_int Tryz.underlying3 g0
   obtain ⟨bt, e1, -, h1⟩ := DataW.trod_int Tryz.underlying3 g1
   obtain ⟨md, e2, -, h2⟩ := DataW.trod_int Tryz.underlying34 g2
   obtain ⟨lm, e3, -, h3⟩ := DataW.trod_int Tryz.underlying3 g3
   obtain ⟨rv, e4, -, h4⟩ := DataW.trod_int Tryz.underlying3 g4
   simp at e0 e1 e2 e3 e4
   subst e0 e1 e2 e3 e4
   exact ⟨s, bt, md, lm, rv, rfl, h0, h1, h2, h3, h4⟩
theorem trod_act {fuel : Nat} {cs : List Value} {x : DataW H × List MemPlace} (h : DataW.trod enc Tryz.prog w base (fun _ => true) held fuel 52 cs = some x) : ∃ a : ActV, cs = a.cells ∧ a.ok w := by
 obtain ⟨y0, y1, y2, y3, n, -, hl, g0, g1, g2, g3⟩ := trod_struct4 Tryz.underlying52 h
 have hc : Tryz.prog.cellsOf 52 = 8 := by kernel_rfl
 have k3 : Tryz.prog.cellsOf 3 = 1 := by kernel_rfl
 have k4 : Tryz.prog.cellsOf 4 = 1 := by kernel_rfl
 have k5 : Tryz.prog.cellsOf 36 = 5 := by kernel_rfl
 have k6 : Tryz.prog.cellsOf 39 = 1 := by kernel_rfl
 rw [hc] at hl
 match cs, hl with
 | [c0, c1, c2, c3, c4, c5, c6, c7], _ =>
   simp [k3, k4, k5, k6] at g0 g1 g2 g3
   obtain ⟨kd, e0, -, h0⟩ := DataW.trod_int Tryz.underlying3 g0
   obtain ⟨s, bt, md, lm, rv, e1, h1, h2, h3, h4, h5⟩ := trod_cf g1
   obtain ⟨fr, e2, -⟩ := DataW.trod_bool Tryz.underlying4 g2
   obtain ⟨A, m, c, xs, e3, h6⟩ := trod_ints g3
   simp at e0 e1 e2 e3
   obtain ⟨rfl, rfl, rfl, rfl, rfl⟩ := e1
   subst e0 e2 e3
   exact ⟨⟨kd, s, bt, md, lm, rv, fr, A, m, c, xs⟩, rfl, h6, h1, h2, h3, h4, h5, h0⟩
theorem open_act {r : Reach} {b0 : Nat} {v : Value} {d : DataW H} {p : List MemPlace} (hv : Value.okWide Tryz.prog w r b0 52 v) (h : DataW.Trod enc Tryz.prog w base (fun _ => true) held 52 v d p) : ∃ a : ActV, v = .agg a.cells.toArray ∧ a.ok w := by
 obtain ⟨cs, rfl, hsz⟩ := okWide_struct Tryz.underlying52 hv
 obtain ⟨fuel, hf⟩ := h
 obtain ⟨a, ha, hok⟩ := trod_act hf
 exact ⟨a, by rw [← ha]; simp [Value.cells], hok⟩
def actsC (l : List ActV) : List Value := l.flatMap ActV.cells
theorem actsC_len : ∀ l : List ActV, (actsC l).length = 8 * l.length
 | [] => rfl
 | a :: l => by
   show (a.cells ++ actsC l).length = _
   rw [List.length_append, actsC_len l]
   show 8 + _ = _
   simp only [List.length_cons]; omega
end
end Go.Proofs.YtkdfefpnhaebfaaGreat

namespace Go.Proofs.YtkdfefpnhaebfaaGreat
open Go.RowKit
set_option linter.unusedVariables false
attribute [local go_sem] Oper.semAt_some
def NilV (W : World) (v : Value) : Prop := v = .pointer none ∨ ∃ P, v = .pointer (some ⟨P, 0, none⟩) ∧ Blk W P 72 [.int .i64 0, .int .i64 0, .int .i64 0, .int .i64 0, .slice none 0 0]
theorem NilV.below {W W' : World} {v : Value} (h : NilV W v) (hB : Below W.heap.size W W') : NilV W' v := by
 rcases h with h | ⟨P, h, hb⟩
 · exact .inl h
 · exact .inr ⟨P, h, hb.below hB⟩
theorem nnone_any {W : World} {v : Value} (h : NilV W v) : Calls Tryz.prog 40 #[v] W fun e w' => e = .returned (.bool true) ∧ W = w' := by
 rcases h with rfl | ⟨P, rfl, hb⟩
 · go_enter Tryz.func40, Tryz.ntmps40
   go_wp2
   go_ret
   exact ⟨rfl, rfl⟩
 · have c0 := hb.cell (j := 0) (v := .int .i64 0) rfl
   clear hb
   go_enter Tryz.func40, Tryz.ntmps40
   go_wp2
   go_ret
   exact ⟨rfl, rfl⟩
theorem nstate_any {W : World} {v : Value} (h : NilV W v) : Calls Tryz.prog 17 #[v] W fun e w' => e = .returned (.int .i64 0) ∧ W = w' := by
 have HN := Lib.hid (nnone_any h)
 clear h
 go_enter Tryz.func17, Tryz.ntmps17
 go_wp2_with fail
 refine HN.out.mono ?_
 rintro e w1 ⟨rfl, rfl⟩
 go_wp2
 go_ret
 exact ⟨rfl, rfl⟩
theorem ndecoded_any {W : World} {v : Value} (h : NilV W v) : Calls Tryz.prog 24 #[v] W fun e w' => e = .returned (.int .i64 0) ∧ Below W.heap.size W w' := by
 have HN := Lib.hid (nnone_any h)
 clear h
 go_enter Tryz.func24, Tryz.ntmps24
 go_wp2_with fail
 refine HN.out.mono ?_
 rintro e w1 ⟨rfl, rfl⟩
 go_wp2
 go_ret
 exact ⟨rfl, Below.refl _ _⟩
theorem nreset_any {W : World} {v : Value} (h : NilV W v) : Calls Tryz.prog 23 #[v] W fun e w' => e = .returned (.int .i64 1) ∧ Below W.heap.size W w' := by
 have HN := Lib.hid (nnone_any h)
 clear h
 go_enter Tryz.func23, Tryz.ntmps23
 go_wp2_with fail
 refine HN.out.mono ?_
 rintro e w1 ⟨rfl, rfl⟩
 go_wp2
 go_ret
 exact ⟨rfl, Below.refl _ _⟩
theorem ncopy_any {W : World} {v : Value} (h : NilV W v) : Calls Tryz.prog 25 #[v] W fun e w' => e = .returned (.pointer none) ∧ Below W.heap.size W w' := by
 have HN := Lib.hid (nnone_any h)
 clear h
 go_enter Tryz.func25, Tryz.ntmps25
 go_wp2_with fail
 refine HN.out.mono ?_
 rintro e w1 ⟨rfl, rfl⟩
 go_wp2
 go_ret
 exact ⟨rfl, Below.refl _ _⟩
theorem nrecv_any {w : World} {v : Value} (h : NilV w v) (s bt md l rv : Int) (fresh : Bool) (A : Option Addr) (n c : Nat) :
 Calls Tryz.prog 15 #[v, .agg #[.int .i64 s, .int .i64 bt, .int .i64 md, .int .i64 l, .int .i64 rv], .bool fresh, .slice A n c] w fun e w' => e = .returned (.tuple #[.slice none 0 0, .int .i64 0, .int .i64 1]) ∧ Below w.heap.size w w' := by
 have HB := Lib.hid (bal (Below.refl w.heap.size w) (.cells #[.int .i64 s, .int .i64 bt, .int .i64 md, .int .i64 l, .int .i64 rv] 36))
 have HN := Lib.hid (nnone_any (h.below HB.out))
 clear h
 go_enter Tryz.func15, Tryz.ntmps15
 go_wp2_with fail
 refine HN.out.mono ?_
 rintro e w1 ⟨rfl, hw⟩
 rw [← hw]
 clear hw
 go_wp2
 go_ret3
 exact ⟨rfl, HB.out⟩
end Go.Proofs.YtkdfefpnhaebfaaGreat

namespace Go.Proofs.YtkdfefpnhaebfaaGreat
set_option maxRecDepth 100000
set_option maxHeartbeats 4000000
open Go.RowKit
set_option linter.unusedVariables false
attribute [local go_sem] Oper.semAt_some
theorem elP : El Tryz.prog 73 23 (.pointer none) 8 := ⟨by kernel_rfl, by kernel_rfl, fun _ => by kernel_rfl, rfl⟩
section
variable {ops : Array Oper} {rest : List Oper} {op : Oper} {a : Act} {w : World} {Q : Exit → Act → World → Prop} {b : Nat} {t : TypeId} {cs all : List Value}
theorem ldmid (hgd : op.guard = none) (ty : TypeId) (x : Operand) (ho : op.op = .load ty x) (o : Nat) (hx : a.eval x = .pointer (some ⟨b, o, none⟩)) (hB : Blk w b t all) (hc : (all.drop o).take cs.length = cs) (d : TypeDesc) (hu : Tryz.prog.underlying ty = some d) (hd : d.isRow = true) (hi : (Tryz.prog.info? ty).map (·.size) = some cs.length)
 (h : wpList Tryz.prog ops Q rest (a.put op.dst (.agg cs.toArray)) w) : wpList Tryz.prog ops Q (op :: rest) a w :=
 wpList_plain hgd fun _ hK => wp_load_mid ty x ho b o hx cs d (fun j v hj => hB.cell (by
  have hlt := (List.getElem?_eq_some_iff.1 hj).1
  rw [← hc, List.getElem?_take, if_pos hlt, List.getElem?_drop] at hj
  exact hj)) hu hd hi (hK _ _ h)
end
def NiInv (w : World) (AB SB : Nat) (v1 : Value) (cs : List Value) (i : Value) (wr : World) : Prop := ∃ j : Nat, j ≤ 2 ∧ i = .int .i64 j ∧ Blk wr AB 52 cs ∧ Rdv wr (some ⟨SB, 0, none⟩) 2 2 [.pointer none, v1] ∧ NilV wr v1 ∧ Below w.heap.size w wr
theorem nil_any (a : ActV) (w : World) : Calls Tryz.prog 9 #[.agg a.cells.toArray] w fun e w' => e = .returned (.bool true) ∧ Below w.heap.size w w' := by
 obtain ⟨kd, s, bt, md, lm, rv, fr, A, n, c, xs⟩ := a
 show Calls Tryz.prog 9 #[.agg #[.int .i64 kd, .int .i64 s, .int .i64 bt, .int .i64 md, .int .i64 lm, .int .i64 rv, .bool fr, .slice A n c]] w _
 have hA0 := Blk.new w [.int .i64 kd, .int .i64 s, .int .i64 bt, .int .i64 md, .int .i64 lm, .int .i64 rv, .bool fr, .slice A n c] 52 rfl
 have hB1 := bal (Below.refl w.heap.size w) (.cells #[.int .i64 kd, .int .i64 s, .int .i64 bt, .int .i64 md, .int .i64 lm, .int .i64 rv, .bool fr, .slice A n c] 52)
 have hZ0 := Blk.new (w.alloc (.cells #[.int .i64 kd, .int .i64 s, .int .i64 bt, .int .i64 md, .int .i64 lm, .int .i64 rv, .bool fr, .slice A n c] 52)) [.int .i64 0, .int .i64 0, .int .i64 0, .int .i64 0, .slice none 0 0] 72 rfl
 have hB2 := bal hB1 (.cells #[.int .i64 0, .int .i64 0, .int .i64 0, .int .i64 0, .slice none 0 0] 72)
 have hS0 := Ownv.lit (base := w.heap.size) ((w.alloc (.cells #[.int .i64 kd, .int .i64 s, .int .i64 bt, .int .i64 md, .int .i64 lm, .int .i64 rv, .bool fr, .slice A n c] 52)).alloc (.cells #[.int .i64 0, .int .i64 0, .int .i64 0, .int .i64 0, .slice none 0 0] 72)) #[.pointer none, .pointer (some ⟨w.heap.size + 1, 0, none⟩)] 23 rfl (by simp <;> omega) (by show 2 ≤ maxLen; unfold maxLen; omega)
 have hB3 := bal hB2 (.cells #[.pointer none, .pointer (some ⟨w.heap.size + 1, 0, none⟩)] 23)
 simp only [World.size_alloc] at hZ0
 have HI : Hid (NiInv w w.heap.size (w.heap.size + 2) (.pointer (some ⟨w.heap.size + 1, 0, none⟩)) [.int .i64 kd, .int .i64 s, .int .i64 bt, .int .i64 md, .int .i64 lm, .int .i64 rv, .bool fr, .slice A n c] (.int .i64 0) (((w.alloc (.cells #[.int .i64 kd, .int .i64 s, .int .i64 bt, .int .i64 md, .int .i64 lm, .int .i64 rv, .bool fr, .slice A n c] 52)).alloc (.cells #[.int .i64 0, .int .i64 0, .int .i64 0, .int .i64 0, .slice none 0 0] 72)).alloc (.cells #[.pointer none, .pointer (some ⟨w.heap.size + 1, 0, none⟩)] 23))) := Lib.hid
  ⟨0, by omega, rfl, (hA0.alloc _).alloc _, by simpa using Ownv.rd hS0, .inr ⟨_, rfl, hZ0.alloc _⟩, hB3⟩
 clear hA0 hB1 hZ0 hB2 hS0 hB3
 go_enter Tryz.func9, Tryz.ntmps9
 go_wp2
 go_loopw [14] (fun i wr => NiInv w w.heap.size (w.heap.size + 2) (.pointer (some ⟨w.heap.size + 1, 0, none⟩)) [.int .i64 kd, .int .i64 s, .int .i64 bt, .int .i64 md, .int .i64 lm, .int .i64 rv, .bool fr, .slice A n c] i wr) (fun i _ => 2 - (intOf i).toNat)
 case atStart => exact HI.out
 case round =>
  obtain ⟨j, hj, rfl, hA, hR, hN, hB⟩ := hrel
  generalize hSA : (some ⟨w.heap.size + 2, 0, none⟩ : Option Addr) = SA at *
  have HSA := Lib.hid hSA
  clear hSA
  generalize w.heap.size + 1 = PB at *
  have HA := Lib.hid hA
  have HR := Lib.hid hR
  have HB := Lib.hid hB
  have HN1 := Lib.hid hN
  clear HI hN hB
  by_cases hlt : j < 2
  · obtain ⟨v, hv, hnv⟩ : ∃ v, [Value.pointer none, .pointer (some ⟨PB, 0, none⟩)][j]? = some v ∧ NilV wr v := by
     rcases (by omega : j = 0 ∨ j = 1) with rfl | rfl
     · exact ⟨_, rfl, .inl rfl⟩
     · exact ⟨_, rfl, HN1.out⟩
    have hc := HR.out.at_ j v hv
    have HV := Lib.hid hnv
    have hix := fun W => Rdv.ix HR.out elP hlt .i64 W
    have c6 := hA.cell (j := 6) (v := .bool fr) rfl
    have c7 := hA.cell (j := 7) (v := .slice A n c) rfl
    clear hv hnv hR
    go_wp2_with (refine ldmid (cs := [.int .i64 s, .int .i64 bt, .int .i64 md, .int .i64 lm, .int .i64 rv]) rfl 36 (.tmp 20) rfl 1 rfl hA rfl _ Tryz.underlying36 rfl (by rw [infoCf]; rfl) ?_)
    refine (nrecv_any HV.out s bt md lm rv fr A n c).mono ?_
    rintro e w2 ⟨rfl, hB2⟩
    have HV2 := Lib.hid (HV.out.below hB2)
    have HB2 := Lib.hid hB2
    have HS2 := Lib.hid (nstate_any HV2.out)
    clear hB2 hA hix hc c6 c7
    go_wp2_with fail
    refine HS2.out.mono ?_
    rintro e wx ⟨rfl, hwx⟩
    rw [← hwx]
    clear hwx
    go_wp2_with fail
    refine (ndecoded_any HV2.out).mono ?_
    rintro e w3 ⟨rfl, hB3⟩
    have HV3 := Lib.hid (HV2.out.below hB3)
    have HB3 := Lib.hid (HB2.out.trans (hB3.mono HB2.out.size))
    clear hB3
    go_wp2_with fail
    refine (nreset_any HV3.out).mono ?_
    rintro e w4 ⟨rfl, hB4⟩
    have HV4 := Lib.hid (HV3.out.below hB4)
    have HB4 := Lib.hid (HB3.out.trans (hB4.mono HB3.out.size))
    clear hB4
    go_wp2_with fail
    refine (ncopy_any HV4.out).mono ?_
    rintro e w5 ⟨rfl, hB5⟩
    have HB5 := Lib.hid (HB4.out.trans (hB5.mono HB4.out.size))
    clear hB5
    go_wp2
    go_roundw
    case rel => exact ⟨j + 1, by omega, by go_num, HA.out.below HB5.out, by rw [HSA.out]; exact Rdv.below HR.out HB5.out, HN1.out.below HB5.out, HB.out.trans (HB5.out.mono HB.out.size)⟩
    case measure => simp [intOf]; omega
  · clear hA hR
    go_wp2_with fail
    refine (known_ok _).mono ?_
    rintro e w2 ⟨rfl, hB2⟩
    go_wp2
    go_ret
    exact ⟨rfl, HB.out.trans (hB2.mono HB.out.size)⟩
end Go.Proofs.YtkdfefpnhaebfaaGreat
