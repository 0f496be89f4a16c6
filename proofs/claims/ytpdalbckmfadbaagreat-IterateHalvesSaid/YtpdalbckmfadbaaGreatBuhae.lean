/-
  Bundle of the texts Bj Bk Bl Bm Bo Bp. Conditions: none.
-/
import Derived.Test.YtpdalbckmfadbaaGreatBuhad
import Derived.Great.BuildSlice
namespace Go.Proofs.YtpdalbckmfadbaaGreat
open Go.RowKit
set_option linter.unusedVariables false
def SoftB (xs : List Int) : Bool := xs.all (fun v => decide (-127 ≤ v ∧ v ≤ 127))
theorem softB_f {xs : List Int} {j : Nat} (hj : j < xs.length) (h : ¬ (-127 ≤ gi xs j ∧ gi xs j ≤ 127)) : SoftB xs = false := by
  rw [Bool.eq_false_iff]; intro hh
  have := all_gi.1 hh j hj
  simp only [decide_eq_true_eq] at this; exact h this
theorem softB_t {xs : List Int} (h : ∀ q, q < xs.length → -127 ≤ gi xs q ∧ gi xs q ≤ 127) : SoftB xs = true := all_gi.2 fun j hj => by simpa using h j hj
theorem softB_mem {xs : List Int} (h : SoftB xs = true) : ∀ v ∈ xs, -127 ≤ v ∧ v ≤ 127 := fun v hv => by simpa using List.all_eq_true.1 h v hv
theorem el106 : El Tryz.prog 231 34 (.slice none 0 0) 24 := ⟨by kernel_rfl, by kernel_rfl, fun _ => by kernel_rfl, rfl⟩
theorem soft1_any (v : Int) (w : World) : Calls Tryz.prog 173 #[.int .i64 v] w fun e w' => e = .returned (.bool (!decide (-127 ≤ v ∧ v ≤ 127))) ∧ w = w' := by
  by_cases h1 : v < -127
  · rw [show decide (-127 ≤ v ∧ v ≤ 127) = false from by simp; omega]
    go_enter Tryz.func173, Tryz.ntmps173
    go_wp2
    go_ret
    exact ⟨rfl, rfl⟩
  · rw [show decide (-127 ≤ v ∧ v ≤ 127) = !decide (127 < v) from by rw [Bool.eq_iff_iff]; simp; omega, Bool.not_not]
    go_enter Tryz.func173, Tryz.ntmps173
    go_wp2
    go_ret
    exact ⟨rfl, rfl⟩
def SIdx (n : Nat) (xs : List Int) (i : Value) : Prop := ∃ j : Nat, j ≤ n ∧ i = .int .i64 j ∧ ∀ q, q < j → -127 ≤ gi xs q ∧ gi xs q ≤ 127
def SPost (b : Bool) (w : World) (e : Ending) (w' : World) : Prop := ∃ r : Int, e = .returned (.int .i64 r) ∧ (0 ≤ r ↔ b = false) ∧ w = w'
set_option maxHeartbeats 400000 in
theorem sidx_any (A : Option Addr) (n c : Nat) (xs : List Int) (w : World) (h : Rd .i64 w A n c xs) :
    Calls Tryz.prog 122 #[.slice A n c, .func (.func 173) #[] #[]] w (SPost (SoftB xs) w) := by
  have hbd := h.bd.1
  go_enter Tryz.func122, Tryz.ntmps122
  go_wp2
  go_loop [8] (fun i => SIdx n xs i) (fun i => n - (intOf i).toNat)
  case atStart => exact ⟨0, by omega, rfl, by intro q hq; omega⟩
  case round =>
    obtain ⟨j, hj, rfl, hv⟩ := hrel
    by_cases hlt : j < n
    · have hc := Rd.cell h hlt
      have hix := fun W => Rdv.ix h el22 hlt .i64 W
      have HV := Lib.hid hv; clear hv
      by_cases h1 : -127 ≤ gi xs j ∧ gi xs j ≤ 127
      · have h1' : (!decide (-127 ≤ gi xs j ∧ gi xs j ≤ 127)) = false := by simp; omega
        have H1 := Lib.hid h1; clear h1
        go_wp2_with (go_at_call 173; refine (soft1_any _ _).mono ?_; rintro e w' ⟨rfl, rfl⟩; rw [h1'])
        go_round
        case rel => exact ⟨j + 1, by omega, by go_num, fun q hq => lt_succ_cases HV.out H1.out q hq⟩
        case measure => simp [intOf]; omega
      · have h1' : (!decide (-127 ≤ gi xs j ∧ gi xs j ≤ 127)) = true := by simp; omega
        have hf := Lib.hid (softB_f (by rw [h.len]; exact hlt) h1)
        clear h1
        go_wp2_with (go_at_call 173; refine (soft1_any _ _).mono ?_; rintro e w' ⟨rfl, rfl⟩; rw [h1'])
        go_ret
        exact ⟨_, rfl, by rw [hf.out]; simp, rfl⟩
    · have hf := Lib.hid (softB_t (xs := xs) (by rw [h.len]; intro q hq; exact hv q (by omega)))
      clear hv
      go_wp2
      go_ret
      exact ⟨_, rfl, by rw [hf.out]; simp, rfl⟩
theorem scont_any (A : Option Addr) (n c : Nat) (xs : List Int) (w : World) (h : Rd .i64 w A n c xs) :
    Calls Tryz.prog 80 #[.slice A n c, .func (.func 173) #[] #[]] w fun e w' => e = .returned (.bool (!SoftB xs)) ∧ w = w' := by
  go_enter Tryz.func80, Tryz.ntmps80
  go_wp2_with (go_at_call 122; refine (sidx_any A n c xs w h).mono ?_; rintro e w' ⟨r, rfl, hr, rfl⟩)
  go_ret
  refine ⟨ret_bool ?_, rfl⟩
  cases hv : SoftB xs <;> simp_all
theorem srow_any (A : Option Addr) (n c : Nat) (xs : List Int) (w : World) (h : Rd .i64 w A n c xs) :
    Calls Tryz.prog 172 #[.slice A n c] w fun e w' => e = .returned (.bool (!SoftB xs)) ∧ w = w' := by
  go_enter Tryz.func172, Tryz.ntmps172
  go_wp2_with (go_at_call 80; refine (scont_any A n c xs w h).mono ?_; rintro e w' ⟨rfl, rfl⟩)
  go_ret
  exact ⟨rfl, rfl⟩
structure RowS where
  A : Option Addr
  c : Nat
  xs : List Int
def RowS.v (r : RowS) : Value := .slice r.A r.xs.length r.c
def RowS.At (W : World) (r : RowS) : Prop := Rd .i64 W r.A r.xs.length r.c r.xs
def rowsB (rs : List RowS) : Bool := rs.all (fun r => SoftB r.xs)
def RIdx (n : Nat) (rs : List RowS) (i : Value) : Prop := ∃ j : Nat, j ≤ n ∧ i = .int .i64 j ∧ ∀ q, q < j → ∀ r, rs[q]? = some r → SoftB r.xs = true
set_option maxHeartbeats 400000 in
theorem ridx_any (A : Option Addr) (n c : Nat) (rs : List RowS) (w : World) (h : Rdv w A n c (rs.map RowS.v)) (hr : ∀ r ∈ rs, r.At w) :
    Calls Tryz.prog 179 #[.slice A n c, .func (.func 172) #[] #[]] w (SPost (rowsB rs) w) := by
  have hbd := h.bd.1
  have hlen : rs.length = n := by have := h.len; simpa using this
  have HLEN := Lib.hid hlen
  clear hlen
  go_enter Tryz.func179, Tryz.ntmps179
  go_wp2
  go_loop [8] (fun i => RIdx n rs i) (fun i => n - (intOf i).toNat)
  case atStart => exact ⟨0, by omega, rfl, by intro q hq; omega⟩
  case round =>
    obtain ⟨j, hj, rfl, hv⟩ := hrel
    by_cases hlt : j < n
    · obtain ⟨r, hrj⟩ : ∃ r, rs[j]? = some r := ⟨_, List.getElem?_eq_getElem (by rw [HLEN.out]; exact hlt)⟩
      have hc := h.at_ j r.v (by rw [List.getElem?_map, hrj]; rfl)
      unfold RowS.v at hc
      have HAT := Lib.hid (hr r (List.mem_of_getElem? hrj))
      have hix := fun W => Rdv.ix h el106 hlt .i64 W
      have HV := Lib.hid hv
      have HRJ := Lib.hid hrj
      clear hv hrj
      cases h1 : SoftB r.xs with
      | true =>
        have H1 := Lib.hid h1
        go_wp2_with (go_at_call 172; refine (srow_any _ _ _ _ _ HAT.out).mono ?_; rintro e w' ⟨rfl, rfl⟩; rw [H1.out, Bool.not_true])
        go_round
        case rel => exact ⟨j + 1, by omega, by go_num, fun q hq r' hr' => by
          rcases (by omega : q < j ∨ q = j) with hq' | rfl
          · exact HV.out q hq' r' hr'
          · rw [HRJ.out] at hr'; cases hr'; exact H1.out⟩
        case measure => simp [intOf]; omega
      | false =>
        have H1 := Lib.hid h1
        have hf := Lib.hid (show rowsB rs = false from by
          rw [Bool.eq_false_iff]; intro hh
          have := List.all_eq_true.1 hh r (List.mem_of_getElem? HRJ.out)
          rw [H1.out] at this; cases this)
        go_wp2_with (go_at_call 172; refine (srow_any _ _ _ _ _ HAT.out).mono ?_; rintro e w' ⟨rfl, rfl⟩; rw [H1.out, Bool.not_false])
        go_ret
        exact ⟨_, rfl, by rw [hf.out]; simp, rfl⟩
    · have hf := Lib.hid (show rowsB rs = true from List.all_eq_true.2 fun r hr' => by
        obtain ⟨q, hq, e⟩ := List.getElem_of_mem hr'
        have := HLEN.out
        exact hv q (by omega) r (by rw [List.getElem?_eq_getElem hq, e]))
      clear hv
      go_wp2
      go_ret
      exact ⟨_, rfl, by rw [hf.out]; simp, rfl⟩
theorem rcont_any (A : Option Addr) (n c : Nat) (rs : List RowS) (w : World) (h : Rdv w A n c (rs.map RowS.v)) (hr : ∀ r ∈ rs, r.At w) :
    Calls Tryz.prog 171 #[.slice A n c, .func (.func 172) #[] #[]] w fun e w' => e = .returned (.bool (!rowsB rs)) ∧ w = w' := by
  go_enter Tryz.func171, Tryz.ntmps171
  go_wp2_with (go_at_call 179; refine (ridx_any A n c rs w h hr).mono ?_; rintro e w' ⟨r, rfl, hr, rfl⟩)
  go_ret
  refine ⟨ret_bool ?_, rfl⟩
  cases hv : rowsB rs <;> simp_all
theorem outside_any (A : Option Addr) (n c : Nat) (rs : List RowS) (w : World) (h : Rdv w A n c (rs.map RowS.v)) (hr : ∀ r ∈ rs, r.At w) :
    Calls Tryz.prog 161 #[.slice A n c] w fun e w' => e = .returned (.bool (!rowsB rs)) ∧ w = w' := by
  go_enter Tryz.func161, Tryz.ntmps161
  go_wp2_with (go_at_call 171; refine (rcont_any A n c rs w h hr).mono ?_; rintro e w' ⟨rfl, rfl⟩)
  go_ret
  exact ⟨rfl, rfl⟩
end Go.Proofs.YtpdalbckmfadbaaGreat

namespace Go.Proofs.YtpdalbckmfadbaaGreat
open Go.RowKit
set_option linter.unusedVariables false
theorem wp_scope_fwd {P : Program} {a : Act} {w : World} {Q : Exit → Act → World → Prop} {c rest : Code} (l : Nat) (hf : findLabel c l = some rest)
    (first : c.wp P (Exit.jump l (fun a w => rest.wp P (Exit.jump l (fun _ _ => False) Q) a w) Q) a w) : (Code.scope c).wp P Q a w :=
  wp_scope_jumps l (fun a w => rest.wp P (Exit.jump l (fun _ _ => False) Q) a w) (fun _ _ => 0) hf first fun a w h => Code.wp_mono (fun e a w h => by
    cases e <;> first | exact h | exact ⟨h.1, h.2.elim⟩) h
theorem info62 : (Tryz.prog.info? 195).map (·.size) = some 2 := by kernel_rfl
theorem res62 {W : World} {b : Nat} {cs : List Value} (h : Blk W b 195 cs) (hl : cs.length = 2) : (loadVar 195 ⟨b, 0, none⟩).run Tryz.prog W = .ok (.agg cs.toArray) W :=
  run_loadVar_row (P := Tryz.prog) W b 195 195 _ (0, 0) _ h Tryz.underlying195 rfl (by rw [info62]; simp [hl])
theorem results28 {W : World} {b : Nat} {cs : List Value} {a : Array Value} {E : Int} (h : Blk W b 195 cs) (hl : cs.length = 2) (h2 : a.getD 6 undef = .pointer (some ⟨b, 0, none⟩)) (h3 : a.getD 7 undef = .int .i64 E) :
    (results Tryz.f132 a).run Tryz.prog W = .ok (.tuple #[.agg cs.toArray, .int .i64 E]) W := by
  rw [results_cell_tmp rfl, h2, h3]
  simp [asAddr, res62 h hl, Sem.run_pure]
theorem bne_len_t {a b : Nat} (h : a ≠ b + 3) : ((a : Int) != (b : Int) + 3) = true := by simp; omega
theorem bne_len_f {a b : Nat} (h : a = b + 3) : ((a : Int) != (b : Int) + 3) = false := by simp; omega
def Ob.lens (o : Ob) : Prop := 1 ≤ o.a.length ∧ o.a.length ≤ 6144 ∧ o.s.length = o.a.length + 3 ∧ o.p.length = o.a.length + 3
def Ob.soft (o : Ob) : Bool := SoftB o.s && (SoftB o.p && SoftB o.a)
theorem Ob.of_ok {o : Ob} (h : o.ok) : o.lens ∧ o.soft = true := by
  obtain ⟨h1, h2, h3, h4, h5, h6, h7⟩ := h
  refine ⟨⟨h1, h2, h3, h4⟩, ?_⟩
  unfold Ob.soft SoftB
  simp only [Bool.and_eq_true, List.all_eq_true, decide_eq_true_eq]
  exact ⟨h5, h6, h7⟩
def obRows (o : Ob) (S P A : Option Addr) (cs cp ca : Nat) : List RowS := [⟨S, cs, o.s⟩, ⟨P, cp, o.p⟩, ⟨A, ca, o.a⟩]
theorem obRows_soft (o : Ob) (S P A : Option Addr) (cs cp ca : Nat) : rowsB (obRows o S P A cs cp ca) = o.soft := by
  simp [rowsB, obRows, Ob.soft]
def zero62 : List Value := [.pointer none, .slice none 0 0]
/-- three rows in memory -/
structure In3 (W : World) (o : Ob) (S P A : Option Addr) (cs cp ca : Nat) : Prop where
  s : Rd .i64 W S o.s.length cs o.s
  p : Rd .i64 W P o.p.length cp o.p
  a : Rd .i64 W A o.a.length ca o.a
theorem In3.below {W W' : World} {o : Ob} {S P A : Option Addr} {cs cp ca : Nat} (h : In3 W o S P A cs cp ca) (hB : Below W.heap.size W W') : In3 W' o S P A cs cp ca := ⟨Rdv.below h.s hB, Rdv.below h.p hB, Rdv.below h.a hB⟩
theorem In3.alloc {W : World} {o : Ob} {S P A : Option Addr} {cs cp ca : Nat} (h : In3 W o S P A cs cp ca) (x : Obj) : In3 (W.alloc x) o S P A cs cp ca := ⟨Rdv.alloc h.s x, Rdv.alloc h.p x, Rdv.alloc h.a x⟩
set_option maxRecDepth 100000 in
set_option maxHeartbeats 600000 in
theorem observed_ok (S P A : Option Addr) (cs cp ca : Nat) (o : Ob) (w : World) (h : In3 w o S P A cs cp ca) (ho : o.ok) :
    Calls Tryz.prog 132 #[.slice S o.s.length cs, .slice P o.p.length cp, .slice A o.a.length ca] w fun e w' => ∃ bo bb, e = .returned (.tuple #[swV bo bb, .int .i64 0]) ∧ SwAt w' bo bb o S P A cs cp ca ∧ Below w.heap.size w w' := by
  obtain ⟨⟨l1, l2, l3, l4⟩, hs⟩ := Ob.of_ok ho
  have hb : Blk (w.alloc (.cells #[.pointer none, .slice none 0 0] 195)) w.heap.size 195 zero62 := Blk.new w zero62 195 rfl
  have hb2 := hb.alloc (.cells #[.slice S o.s.length cs, .slice P o.p.length cp, .slice A o.a.length ca] 34)
  have h' := Lib.hid ((h.alloc (.cells #[.pointer none, .slice none 0 0] 195)).alloc (.cells #[.slice S o.s.length cs, .slice P o.p.length cp, .slice A o.a.length ca] 34))
  have hR := Lib.hid (Ownv.lit (w.alloc (.cells #[.pointer none, .slice none 0 0] 195)) #[.slice S o.s.length cs, .slice P o.p.length cp, .slice A o.a.length ca] 34 rfl (Nat.le_refl _) (by show 3 ≤ maxLen; unfold maxLen; omega)).rd
  have HS := Lib.hid hs
  have hQ : Below w.heap.size w (((w.alloc (.cells #[.pointer none, .slice none 0 0] 195)).alloc (.cells #[.slice S o.s.length cs, .slice P o.p.length cp, .slice A o.a.length ca] 34)).alloc (.cells #[.slice S o.s.length cs, .slice P o.p.length cp, .slice A o.a.length ca] 219)) := (((Below.refl _ w).alloc (Nat.le_refl _) _).alloc (by simp) _).alloc (by simp; omega) _
  have h89 : ObsAt (((w.alloc (.cells #[.pointer none, .slice none 0 0] 195)).alloc (.cells #[.slice S o.s.length cs, .slice P o.p.length cp, .slice A o.a.length ca] 34)).alloc (.cells #[.slice S o.s.length cs, .slice P o.p.length cp, .slice A o.a.length ca] 219)) (w.heap.size + 2) o S P A cs cp ca :=
    ⟨Blk.new _ [.slice S o.s.length cs, .slice P o.p.length cp, .slice A o.a.length ca] 219 (by simp), Rdv.alloc h'.out.s _, Rdv.alloc h'.out.p _, Rdv.alloc h'.out.a _⟩
  have hb3 := hb2.alloc (.cells #[.slice S o.s.length cs, .slice P o.p.length cp, .slice A o.a.length ca] 219)
  have HQ := Lib.hid hQ
  have H89 := Lib.hid h89
  have HB3 := Lib.hid hb3
  have H0 := Lib.hid h
  have e3 := bne_len_f l3
  have e4 := bne_len_f l4
  have L3 := Lib.hid l3
  have L4 := Lib.hid l4
  clear l3 l4
  clear h hs hQ h89 hb hb2 hb3
  go_enter Tryz.func132, Tryz.ntmps132
  go_wp2_with fail
  go_step3
  go_wp2_with fail
  refine (outside_any _ 3 3 (obRows o S P A cs cp ca) _ (by have := hR.out; simpa [obRows, RowS.v] using this) (by intro r hr; simp [obRows] at hr; rcases hr with rfl | rfl | rfl; exact h'.out.s; exact h'.out.p; exact h'.out.a)).mono ?_
  rintro e w1 ⟨rfl, rfl⟩
  rw [obRows_soft, HS.out, Bool.not_true]
  go_wp2_with fail
  refine (branches_any _).mono ?_
  rintro e w2 ⟨bb, rfl, hB, hs, hB2⟩
  have h62 := HB3.out.below hB2
  have HW := Lib.hid (SwAt.mk (H89.out.below hB2) hB)
  have HB2 := Lib.hid hB2
  have HBB := Lib.hid hs
  clear hB hs hB2
  go_wp2_with (refine strow (cs := [.pointer (some ⟨w.heap.size + 2, 0, none⟩), .slice (some ⟨bb, 0, none⟩) 16 16]) rfl 195 (.tmp 6) (.tmp 42) rfl rfl rfl h62 rfl (by rw [info62]; rfl) (by simp [Value.oneCell']) ?_; intro W2 h1 h2; have H1 := Lib.hid h1; have H2 := Lib.hid h2; clear h1 h2 h62)
  rw [Exit.noGoto_ret]
  have hfin : Below w.heap.size w W2 := (HQ.out.trans (HB2.out.mono (by simp; omega))).grown H2.out (by have := HB2.out.size; simp at this; omega) (fun k hk => by cases hk; exact Nat.le_refl _)
  have hz := HBB.out
  simp at hz
  exact bodyPost_ret (results28 H1.out rfl rfl rfl) rfl ⟨w.heap.size + 2, bb, rfl, ⟨⟨Blk.grown HW.out.o.blk H2.out (by omega), Rdv.below H0.out.s hfin, Rdv.below H0.out.p hfin, Rdv.below H0.out.a hfin⟩, Blk.grown HW.out.b H2.out (by omega)⟩, hfin⟩
end Go.Proofs.YtpdalbckmfadbaaGreat

namespace Go.Proofs.YtpdalbckmfadbaaGreat
open Go.RowKit
set_option linter.unusedVariables false
/-- a list of metrics, the call's own -/
structure Mx (W : World) (base bg cap : Nat) (ms : List (List Int)) : Prop where
  ow : W.ownsRow base 198 8 (.slice (some ⟨bg, 0, none⟩) ms.length cap) ms.length (ms.flatMap ints8)
  l8 : ∀ m ∈ ms, m.length = 8
theorem flat8 : ∀ (ms : List (List Int)) (h : ∀ m ∈ ms, m.length = 8) (j q : Nat) (m : List Int), ms[j]? = some m → q < 8 → (ms.flatMap ints8)[8 * j + q]? = (ints8 m)[q]?
  | [], h, j, q, m, hm, hq => by simp at hm
  | x :: ms, h, 0, q, m, hm, hq => by
    simp at hm; subst hm
    have hx : (ints8 x).length = 8 := by simp [ints8, h x (by simp)]
    rw [List.flatMap_cons, List.getElem?_append_left (by omega), Nat.mul_zero, Nat.zero_add]
  | x :: ms, h, j + 1, q, m, hm, hq => by
    have hx : (ints8 x).length = 8 := by simp [ints8, h x (by simp)]
    rw [List.flatMap_cons, List.getElem?_append_right (by omega), hx, show 8 * (j + 1) + q - 8 = 8 * j + q from by omega]
    exact flat8 ms (fun m' hm' => h m' (by simp [hm'])) j q m (by simpa using hm) hq
section
variable {W W' : World} {base bg cap : Nat} {ms : List (List Int)}
theorem Mx.blk (h : Mx W base bg cap ms) : ∃ cur, W.heap[bg]? = some (.cells cur 198 (0, 0)) ∧ base ≤ bg ∧ ms.length ≤ cap ∧ cap ≤ maxLen ∧ cur.size = cap * 8 ∧ cur.toList.take (ms.length * 8) = ms.flatMap ints8 := by
  obtain ⟨h1, h2⟩ := h.ow
  rcases h2 with ⟨h2, h3⟩ | ⟨g, cap', cur, h2, h3, h4, h5, h6, h7, h8⟩
  · simp at h2
  · simp only [Value.slice.injEq, Option.some.injEq, Addr.mk.injEq, true_and, and_true] at h2
    obtain ⟨rfl, rfl⟩ := h2
    exact ⟨cur, h4, h3, h5, h6, h7, h8⟩
theorem Mx.lt (h : Mx W base bg cap ms) : bg < W.heap.size := by
  obtain ⟨cur, h1, -⟩ := h.blk
  exact heap_lt' h1
theorem Mx.ge (h : Mx W base bg cap ms) : base ≤ bg := by
  obtain ⟨cur, h1, h2, -⟩ := h.blk
  exact h2
theorem Mx.keep (h : Mx W base bg cap ms) (hk : W'.heap[bg]? = W.heap[bg]?) : Mx W' base bg cap ms := by
  obtain ⟨cur, h1, h2, h3, h4, h5, h6⟩ := h.blk
  exact ⟨⟨h.ow.1, .inr ⟨bg, cap, cur, rfl, h2, hk.trans h1, h3, h4, h5, h6⟩⟩, h.l8⟩
theorem Mx.below (h : Mx W base bg cap ms) (hB : Below W.heap.size W W') : Mx W' base bg cap ms := h.keep (hB.block bg h.lt)
theorem Mx.alloc (h : Mx W base bg cap ms) (o : Obj) : Mx (W.alloc o) base bg cap ms := h.keep (heap_alloc_old (h := h.lt) ..)
theorem Mx.grown (h : Mx W base bg cap ms) {row : Option Nat} (hg : W.grownBy W' row) (hne : some bg ≠ row) : Mx W' base bg cap ms := h.keep (hg.block bg h.lt hne)
theorem Mx.row (h : Mx W base bg cap ms) {j : Nat} {m : List Int} (hj : ms[j]? = some m) : W.rangeAt bg (8 * j) (ints8 m) := fun q v hv => by
  obtain ⟨cur, h1, h2, h3, h4, h5, h6⟩ := h.blk
  have hm : m.length = 8 := h.l8 m (List.mem_of_getElem? hj)
  have hq : q < 8 := by have := (List.getElem?_eq_some_iff.1 hv).1; simpa [ints8, hm] using this
  have hjl : j < ms.length := (List.getElem?_eq_some_iff.1 hj).1
  rw [cell_of_row W bg _ cur 198 (0, 0) h1]
  have h7 := flat8 ms h.l8 j q m hj hq
  rw [← h6, List.getElem?_take, if_pos (by omega), hv] at h7
  simpa using h7
theorem Mx.new (m : List Int) (hm : m.length = 8) (hb : base ≤ W.heap.size) {N : Nat} (hN : N = W.heap.size) : Mx (W.alloc (.cells (ints8 m).toArray 198)) base N 1 [m] := by
  subst hN
  have h := World.ownsRow_lit (base := base) (e := 198) (size := 8) W (ints8 m).toArray 1 hb (by unfold maxLen; omega) (by simp [ints8, hm])
  exact ⟨by simpa using h, by simpa using hm⟩
theorem info66b : (Tryz.prog.info? 198).map (fun i => (i.zero, i.size, i.bytes)) = some (some (.agg (ints8 (List.replicate 8 0)).toArray), 8, 64) := by kernel_rfl
/-- append of one row -/
theorem wp_appM {o : Oper} {a : Act} {K : Act → World → Prop} {Q : Exit → Act → World → Prop} (s x : Operand) (m : List Int) (hm : m.length = 8)
    (ho : o.op = .call { callee := .builtin .append, args := #[s, x], argTypes := #[200, 200] }) (hs : a.eval s = .slice (some ⟨bg, 0, none⟩) ms.length cap) (hx : a.eval x = .slice (some ⟨W.heap.size, 0, none⟩) 1 1)
    (hO : Mx W base bg cap ms) (hn : ms.length < 1000000) (hbase : base ≤ W.heap.size)
    (h : ∀ bg' cap' w', Mx w' base bg' cap' (ms ++ [m]) → W.grownBy w' (some bg) → K (a.put o.dst (.slice (some ⟨bg', 0, none⟩) (ms.length + 1) cap')) w') : o.wp Tryz.prog a (W.alloc (.cells (ints8 m).toArray 198)) K Q := by
  obtain ⟨i, hi, hz0, hz1, hz2⟩ := info_parts info66b
  have hl : (ints8 m).length = 8 := by simp [ints8, hm]
  obtain ⟨v', w', hr, h2, h3, h4⟩ := run_append_own (P := Tryz.prog) (W.alloc (.cells (ints8 m).toArray 198)) base 200 o.type 198 i _ 8 64 Tryz.underlying200 hi hz0 hz1 hz2 (by rfl) (by decide) _ ms.length _ (hO.alloc _).ow ⟨W.heap.size, 0, none⟩ 1 1 (ints8 m) (by simp [hl])
    (fun j u hj => by
      rw [add_lit, cell_of_row _ W.heap.size _ _ _ (0, 0) (heap_alloc_new _ _)]
      simpa using hj) (ints8_one m) (by unfold maxLen; omega) (by omega) (by simp; omega)
  rcases h2.2 with ⟨h5, h6⟩ | ⟨g, cap', cur, h5, _⟩
  · omega
  · rw [h5] at hr h2
    have h6 : Mx w' base g cap' (ms ++ [m]) := ⟨by simpa [List.flatMap_append] using h2, fun m' hm' => by
      rw [List.mem_append] at hm'
      rcases hm' with hm' | hm'
      · exact hO.l8 m' hm'
      · simp at hm'; subst hm'; exact hm⟩
    unfold Oper.wp
    simp only [execOp, ho, resolve, invoke, builtin, Sem.run_bind, Sem.run_pure, Result.andThen_ok, List.map_toArray, List.map_cons, List.map_nil, hs, hx, hr]
    exact h g cap' w' h6 (grownBy_of_alloc h3)
end
theorem ix68 (g n c : Nat) {j : Nat} (hj : j < n) (kd : IntKind) (W : World) : (Instr.indexAt 200 (.slice (some ⟨g, 0, none⟩) n c) (.int kd (j : Int))).run Tryz.prog W = .ok (.pointer (some ⟨g, 8 * j, none⟩)) W := by
  have h1 : (0 : Int) ≤ (j : Int) ∧ (j : Int) < (n : Int) := by omega
  have hs : (sizeOf 198).run Tryz.prog W = .ok 8 W := by kernel_rfl
  simp only [Instr.indexAt, Sem.run_bind, run_underlying Tryz.underlying200, Result.andThen_ok, asIntOf, Sem.run_pure, if_pos h1, hs, Int.toNat_natCast]
  rw [add_lit, Nat.zero_add, Nat.mul_comm]
theorem run_bs68 (m : List Int) (hm : m.length = 8) (W : World) : (Instr.buildSlice 200 1 #[(0, .agg (ints8 m).toArray)]).run Tryz.prog W = .ok (.slice (some ⟨W.heap.size, 0, none⟩) 1 1) (W.alloc (.cells (ints8 m).toArray 198)) := by
  obtain ⟨i, hi, hz0, hz1, hz2⟩ := info_parts info66b
  match m, hm with
  | [a, b, c, d, e, f, g, h], _ =>
    refine run_buildSlice (P := Tryz.prog) W 200 198 1 _ _ i _ Tryz.underlying200 hi hz0 (by rw [hz1]; decide) (by rw [hz1]; decide) ?_
    rw [hz1]
    first
      | kernel_rfl
      | (simp [Instr.fill, Value.cells, ints8, List.zipIdx, List.range, List.range.loop, Array.range]; done)
theorem wpo_bs {o : Oper} {a : Act} {W : World} {K : Act → World → Prop} {Q : Exit → Act → World → Prop} (x : Operand) (m : List Int) (hm : m.length = 8) (ho : o.op = .buildSlice 200 1 #[(0, x)]) (hx : a.eval x = .agg (ints8 m).toArray)
    (h : K (a.put o.dst (.slice (some ⟨W.heap.size, 0, none⟩) 1 1)) (W.alloc (.cells (ints8 m).toArray 198))) : o.wp Tryz.prog a W K Q := by
  unfold Oper.wp
  have hp : (#[(0, x)] : Array (Nat × Operand)).map (fun (i, x) => (i, a.eval x)) = #[(0, .agg (ints8 m).toArray)] := by simp [hx]
  simp only [execOp, ho, hp, run_bs68 m hm, Sem.run_bind, Sem.run_pure, Result.andThen_ok]
  exact h
theorem wpM_bs {ops : Array Oper} {rest : List Oper} {o : Oper} {a : Act} {W : World} {Q : Exit → Act → World → Prop} (hgd : o.guard = none) (x : Operand) (m : List Int) (hm : m.length = 8) (ho : o.op = .buildSlice 200 1 #[(0, x)]) (hx : a.eval x = .agg (ints8 m).toArray)
    (h : wpList Tryz.prog ops Q rest (a.put o.dst (.slice (some ⟨W.heap.size, 0, none⟩) 1 1)) (W.alloc (.cells (ints8 m).toArray 198))) : wpList Tryz.prog ops Q (o :: rest) a W :=
  wpList_plain hgd fun K hK => wpo_bs x m hm ho hx (hK _ _ h)
end Go.Proofs.YtpdalbckmfadbaaGreat

namespace Go.Proofs.YtpdalbckmfadbaaGreat
open Go.RowKit
set_option linter.unusedVariables false
theorem info28 : (Tryz.prog.info? 104).map (·.size) = some 3 := by kernel_rfl
theorem res28 {W : World} {b : Nat} {cs : List Value} (h : Blk W b 104 cs) (hl : cs.length = 3) : (loadVar 104 ⟨b, 0, none⟩).run Tryz.prog W = .ok (.agg cs.toArray) W :=
  run_loadVar_row (P := Tryz.prog) W b 104 104 _ (0, 0) _ h Tryz.underlying104 rfl (by rw [info28]; simp [hl])
theorem results12 {W : World} {b : Nat} {cs : List Value} {a : Array Value} {E : Int} (h : Blk W b 104 cs) (hl : cs.length = 3) (h2 : a.getD 6 undef = .pointer (some ⟨b, 0, none⟩)) (h3 : a.getD 7 undef = .int .i64 E) :
    (results Tryz.f91 a).run Tryz.prog W = .ok (.tuple #[.agg cs.toArray, .int .i64 E]) W := by
  rw [results_cell_tmp rfl, h2, h3]
  simp [asAddr, res28 h hl, Sem.run_pure]
def zero28 : List Value := [.slice none 0 0, .slice none 0 0, .slice none 0 0]
instance (o : Ob) : Decidable o.lens := by unfold Ob.lens; infer_instance
/-- the errno of an observation -/
def Ob.err (o : Ob) : Int := if o.lens then (if o.soft = true then 0 else 6) else 2
theorem Ob.err_ok {o : Ob} (h : o.ok) : o.err = 0 := by unfold Ob.err; rw [if_pos (Ob.of_ok h).1, if_pos (Ob.of_ok h).2]
end Go.Proofs.YtpdalbckmfadbaaGreat

namespace Go.Proofs.YtpdalbckmfadbaaGreat
open Go.RowKit
set_option linter.unusedVariables false
section
variable {P : Program} {ops : Array Oper} {Q : Exit → Act → World → Prop} {md : Region.Mode} {S : World → Prop} {p : Nat}
/-- whatever order is picked from here on; S holds until p has run -/
def wpAnyP (P : Program) (md : Region.Mode) (ops : Array Oper) (Q : Exit → Act → World → Prop) (S : World → Prop) (p : Nat) : Nat → Array Bool → Act → World → Prop
  | 0, listed, a, w => Region.ready md ops listed = [] ∧ Q .normal a w
  | fuel + 1, listed, a, w => (Region.ready md ops listed = [] → Q .normal a w) ∧
    ∀ i ∈ Region.ready md ops listed, wpOp P ops Q i (fun a' w' => ((listed.setIfInBounds i true).getD p true = false → S w') ∧ wpAnyP P md ops Q S p fuel (listed.setIfInBounds i true) a' w') a w
theorem wpAny_of_P : ∀ (fuel : Nat) (listed : Array Bool) (a : Act) (w : World), wpAnyP P md ops Q S p fuel listed a w → wpAny P md ops Q fuel listed a w
  | 0, _, _, _, h => h
  | fuel + 1, _, _, _, h => ⟨h.1, fun i hi => wpOp_mono (fun a' w' h' => wpAny_of_P fuel _ a' w' h'.2) (h.2 i hi)⟩
theorem getD_unset {listed : Array Bool} {i p : Nat} (h : (listed.setIfInBounds i true).getD p true = false) : listed.getD p true = false := by
  by_cases hip : i = p
  · subst hip
    by_cases hi : i < listed.size
    · simp [Array.getD, hi] at h
    · simp [Array.getD, hi] at h
  · rwa [getD_set_ne true hip] at h
theorem wpAnyP_first {T : World → Prop} {needs : Prop} {i : Nat} {oi : Oper} {v : Value} (hi : ops[i]? = some oi) (hsel : ∀ (j : Nat) (o : Oper) cs b, ops[j]? = some o → o.op ≠ .select cs b)
    (hQ : ∀ c a w, Q (.panic c) (a.put oi.dst v) w → Q (.panic c) a w) (hT : ∀ w, (needs → S w) → T w) (hw : needs → Region.waitsFor md ops p i = true) (hip : p ≠ i) :
    ∀ (fuel : Nat) (listed : Array Bool) (a : Act) (w : World),
      (∀ j oj, ops[j]? = some oj → j ≠ i → listed.getD j true = false → (∀ e ∈ oj.after, Region.binds md e = true → e.on ≠ i) → oi.apart ops oj = true) →
      i ∈ Region.ready md ops listed → YieldsIf P ops T oi v a → (needs → listed.getD p true = false) → (listed.getD p true = false → S w) →
      wpAnyP P md ops Q S p fuel (listed.setIfInBounds i true) (a.put oi.dst v) w → wpAnyP P md ops Q S p (fuel + 1) listed a w := by
  intro fuel
  induction fuel with
  | zero =>
    intro listed a w _ hr hy hp hS H
    refine ⟨fun h => (by rw [h] at hr; cases hr), fun j hj => ?_⟩
    by_cases hji : j = i
    · subst hji; exact hy.wpOp hi (hT w fun n => hS (hp n)) ⟨fun h => hS (getD_unset h), H⟩
    · have := ready_mono hj hji
      rw [H.1] at this
      cases this
  | succ fuel ih =>
    intro listed a w hfree hr hy hp hS H
    refine ⟨fun h => (by rw [h] at hr; cases hr), fun j hj => ?_⟩
    by_cases hji : j = i
    · subst hji; exact hy.wpOp hi (hT w fun n => hS (hp n)) ⟨fun h => hS (getD_unset h), H⟩
    · have hun := (mem_ready.1 hr).1
      have h1 := H.2 j (ready_mono hj hji)
      obtain ⟨hjun, oj, hoj, hall⟩ := mem_ready.1 hj
      have hnot : ∀ e ∈ oj.after, Region.binds md e = true → e.on ≠ i := fun e he hb heq => by
        have h9 := hall e he hb
        rw [heq, getD_both hun] at h9
        cases h9
      have h2 := wpOp_putIf hoj (hfree j oj hoj hji hjun hnot) (fun cs b => hsel i oi cs b hi) (fun cs b => hsel j oj cs b hoj) hQ hy h1
      have hfree' : ∀ k ok, ops[k]? = some ok → k ≠ i → (listed.setIfInBounds j true).getD k true = false →
          (∀ e ∈ ok.after, Region.binds md e = true → e.on ≠ i) → oi.apart ops ok = true := fun k ok hk hki hun' hno => hfree k ok hk hki (getD_unset hun') hno
      refine wpOp_mono (fun a' w' h3 => ?_) h2
      have hpp : needs → (listed.setIfInBounds j true).getD p true = false := fun n => by
        have hjp : j ≠ p := fun e => not_ready_of_waits (hw n) hun (e ▸ hj)
        rw [getD_set_ne true hjp]; exact hp n
      have hSS : (listed.setIfInBounds j true).getD p true = false → S w' := fun hp => by
        exact h3.2.1 (by rw [Array.setIfInBounds_comm _ _ (Ne.symm hji), getD_set_ne true (Ne.symm hip)]; exact hp)
      refine ⟨hSS, ih (listed.setIfInBounds j true) a' w' hfree' (ready_mono hr (Ne.symm hji)) h3.1 hpp hSS ?_⟩
      rw [Array.setIfInBounds_comm _ _ hji]
      exact h3.2.2
/-- an operation that loads what S holds, ahead of p -/
theorem wpAnyP_take {i : Nat} {oi : Oper} {v : Value} {fuel : Nat} {listed : Array Bool} {a : Act} {w : World} (hi : ops[i]? = some oi)
    (hs : Region.noSelect ops = true) (hf : Region.free md ops listed i = true) (hr : (Region.ready md ops listed).contains i = true) (hz : Region.waitsFor md ops p i = true) (hp : listed.getD p true = false) (hip : p ≠ i)
    (hQ : ∀ c a w, Q (.panic c) (a.put oi.dst v) w → Q (.panic c) a w) (hy : YieldsIf P ops S oi v a) (hS : S w)
    (h : wpAnyP P md ops Q S p fuel (listed.setIfInBounds i true) (a.put oi.dst v) w) : wpAnyP P md ops Q S p (fuel + 1) listed a w :=
  wpAnyP_first (needs := True) hi (Region.noSelect_spec hs) hQ (fun w h => h trivial) (fun _ => hz) hip fuel listed a w (Region.free_spec hi hf) (by simpa using hr) hy (fun _ => hp) (fun _ => hS) h
/-- an operation that asks nothing of the world -/
theorem wpAnyP_takeW {i : Nat} {oi : Oper} {v : Value} {fuel : Nat} {listed : Array Bool} {a : Act} {w : World} (hi : ops[i]? = some oi)
    (hs : Region.noSelect ops = true) (hf : Region.free md ops listed i = true) (hr : (Region.ready md ops listed).contains i = true) (hip : p ≠ i)
    (hQ : ∀ c a w, Q (.panic c) (a.put oi.dst v) w → Q (.panic c) a w) (hy : YieldsIf P ops (fun _ => True) oi v a) (hS : S w)
    (h : wpAnyP P md ops Q S p fuel (listed.setIfInBounds i true) (a.put oi.dst v) w) : wpAnyP P md ops Q S p (fuel + 1) listed a w :=
  wpAnyP_first (needs := False) hi (Region.noSelect_spec hs) hQ (fun w h => trivial) (fun h => h.elim) hip fuel listed a w (Region.free_spec hi hf) (by simpa using hr) hy (fun h => h.elim) (fun _ => hS) h
/-- the only one that may come up -/
theorem wpAnyP_one {i : Nat} {oi : Oper} {fuel : Nat} {listed : Array Bool} {a : Act} {w : World} (hi : ops[i]? = some oi) (hr : Region.ready md ops listed = [i]) (hg : oi.guard = none) (hp : (listed.setIfInBounds i true).getD p true = true)
    (h : ∀ K : Act → World → Prop, (∀ a' w', wpAnyP P md ops Q S p fuel (listed.setIfInBounds i true) a' w' → K a' w') → oi.wp P a w K Q) : wpAnyP P md ops Q S p (fuel + 1) listed a w := by
  refine ⟨fun h0 => ?_, fun j hj => ?_⟩
  · rw [hr] at h0
    cases h0
  · rw [hr] at hj
    have hj' : j = i := by simpa using hj
    subst hj'
    unfold wpOp
    simp only [hi]
    rw [if_pos (by simp [Region.wanted, hg])]
    exact .inl (h _ fun _ _ h2 => ⟨fun h9 => (by rw [hp] at h9; cases h9), h2⟩)
theorem wpAnyP_done {listed : Array Bool} {a : Act} {w : World} (hr : Region.ready md ops listed = []) (h : Q .normal a w) : ∀ fuel, wpAnyP P md ops Q S p fuel listed a w
  | 0 => ⟨hr, h⟩
  | _ + 1 => ⟨fun _ => h, by rw [hr]; simp⟩
theorem wp_region_P {id : Nat} {a : Act} {w : World} (S : World → Prop) (p : Nat) (hm : P.follows .mixedOrders = true) (h : wpAnyP P .any ops Q S p ops.size (Array.replicate ops.size false) a w.drew) : (Code.region id ops true).wp P Q a w :=
  wp_region_any hm (wpAny_of_P _ _ _ _ h)
/-- whichever of several comes up -/
theorem wpAnyP_cases {L : List Nat} {fuel : Nat} {listed : Array Bool} {a : Act} {w : World} (hr : Region.ready md ops listed = L) (hne : L ≠ []) (hS : ∀ w, S w)
    (h : ∀ i ∈ L, ∃ oi, ops[i]? = some oi ∧ oi.guard = none ∧ ∀ K : Act → World → Prop, (∀ a' w', wpAnyP P md ops Q S p fuel (listed.setIfInBounds i true) a' w' → K a' w') → oi.wp P a w K Q) : wpAnyP P md ops Q S p (fuel + 1) listed a w := by
  refine ⟨fun h0 => absurd (hr.symm.trans h0) hne, fun j hj => ?_⟩
  rw [hr] at hj
  obtain ⟨oi, hi, hg, hK⟩ := h j hj
  unfold wpOp
  simp only [hi]
  rw [if_pos (by simp [Region.wanted, hg])]
  exact .inl (hK _ fun _ _ h2 => ⟨fun _ => hS _, h2⟩)
/-- one of two -/
theorem wpAnyP_two {i j : Nat} {oi oj : Oper} {fuel : Nat} {listed : Array Bool} {a : Act} {w : World} (hi : ops[i]? = some oi) (hj : ops[j]? = some oj) (hr : Region.ready md ops listed = [i, j]) (gi : oi.guard = none) (gj : oj.guard = none) (hS : ∀ w, S w)
    (h1 : ∀ K : Act → World → Prop, (∀ a' w', wpAnyP P md ops Q S p fuel (listed.setIfInBounds i true) a' w' → K a' w') → oi.wp P a w K Q)
    (h2 : ∀ K : Act → World → Prop, (∀ a' w', wpAnyP P md ops Q S p fuel (listed.setIfInBounds j true) a' w' → K a' w') → oj.wp P a w K Q) : wpAnyP P md ops Q S p (fuel + 1) listed a w :=
  wpAnyP_cases hr (by simp) hS fun q hq => by
    simp only [List.mem_cons, List.not_mem_nil, or_false] at hq
    rcases hq with rfl | rfl
    · exact ⟨_, hi, gi, h1⟩
    · exact ⟨_, hj, gj, h2⟩
/-- one of three -/
theorem wpAnyP_three {i j k : Nat} {oi oj ok : Oper} {fuel : Nat} {listed : Array Bool} {a : Act} {w : World} (hi : ops[i]? = some oi) (hj : ops[j]? = some oj) (hk : ops[k]? = some ok) (hr : Region.ready md ops listed = [i, j, k]) (gi : oi.guard = none) (gj : oj.guard = none) (gk : ok.guard = none) (hS : ∀ w, S w)
    (h1 : ∀ K : Act → World → Prop, (∀ a' w', wpAnyP P md ops Q S p fuel (listed.setIfInBounds i true) a' w' → K a' w') → oi.wp P a w K Q)
    (h2 : ∀ K : Act → World → Prop, (∀ a' w', wpAnyP P md ops Q S p fuel (listed.setIfInBounds j true) a' w' → K a' w') → oj.wp P a w K Q)
    (h3 : ∀ K : Act → World → Prop, (∀ a' w', wpAnyP P md ops Q S p fuel (listed.setIfInBounds k true) a' w' → K a' w') → ok.wp P a w K Q) : wpAnyP P md ops Q S p (fuel + 1) listed a w :=
  wpAnyP_cases hr (by simp) hS fun q hq => by
    simp only [List.mem_cons, List.not_mem_nil, or_false] at hq
    rcases hq with rfl | rfl | rfl
    · exact ⟨_, hi, gi, h1⟩
    · exact ⟨_, hj, gj, h2⟩
    · exact ⟨_, hk, gk, h3⟩
end
/-- three new rows -/
structure Mk3 (W w : World) (n : Nat) (A1 A2 A3 : Option Addr) : Prop where
  o1 : Ownv 3 w W.heap.size A1 n n (List.replicate n (.int .i64 0))
  o2 : Ownv 3 w W.heap.size A2 n n (List.replicate n (.int .i64 0))
  o3 : Ownv 5 w W.heap.size A3 n n (List.replicate n (.int .u8 0))
  n12 : blk A1 ≠ blk A2
  n13 : blk A1 ≠ blk A3
  n23 : blk A2 ≠ blk A3
  b : Below W.heap.size W w
theorem chain3 {w0 w1 w2 w3 : World} {n : Nat} {A1 A2 A3 : Option Addr} {e1 e2 e3 : TypeId} {v1 v2 v3 : List Value} (hn : 0 < n) (h1 : Ownv e1 w1 w0.heap.size A1 n n v1) (b1 : Below w0.heap.size w0 w1)
    (h2 : Ownv e2 w2 w1.heap.size A2 n n v2) (b2 : Below w1.heap.size w1 w2) (h3 : Ownv e3 w3 w2.heap.size A3 n n v3) (b3 : Below w2.heap.size w2 w3) :
    Ownv e1 w3 w0.heap.size A1 n n v1 ∧ Ownv e2 w3 w0.heap.size A2 n n v2 ∧ Ownv e3 w3 w0.heap.size A3 n n v3 ∧ blk A1 < blk A2 ∧ blk A2 < blk A3 ∧ Below w0.heap.size w0 w3 := by
  have g1 := h1.blk_ge hn
  have g2 := h2.blk_ge hn
  have g3 := h3.blk_ge hn
  exact ⟨(h1.below b2).below b3, (h2.below b3).mono b1.size, h3.mono (Nat.le_trans b1.size b2.size), by omega, by omega, (b1.trans (b2.mono b1.size)).trans (b3.mono (Nat.le_trans b1.size b2.size))⟩
end Go.Proofs.YtpdalbckmfadbaaGreat

namespace Go.Proofs.YtpdalbckmfadbaaGreat
open Go.RowKit
set_option linter.unusedVariables false
section
variable {P : Program} {ops : Array Oper} {Q : Exit → Act → World → Prop} {md : Region.Mode} {S : World → Prop} {p : Nat}
theorem P_start {id : Nat} {a : Act} {w : World} (S : World → Prop) (p n : Nat) (l0 : Array Bool) (hn : ops.size = n) (hl : Array.replicate n false = l0) (hm : P.follows .mixedOrders = true) (h : wpAnyP P .any ops Q S p n l0 a w.drew) : (Code.region id ops true).wp P Q a w := by
  subst hl; subst hn; exact wp_region_P S p hm h
theorem P_take (i d : Nat) (v : Value) (l' : Array Bool) {oi : Oper} {fuel : Nat} {listed : Array Bool} {ts : Array Value} {ds : List Deferred} {w : World} (hi : ops[i]? = some oi) (hd : oi.dst = some d) (hl : listed.setIfInBounds i true = l')
    (hs : Region.noSelect ops = true) (hf : Region.free md ops listed i = true) (hr : (Region.ready md ops listed).contains i = true) (hz : Region.waitsFor md ops p i = true) (hp : listed.getD p true = false) (hip : p ≠ i)
    (hQ : ∀ c a w, Q (.panic c) (a.put oi.dst v) w → Q (.panic c) a w) (hy : YieldsIf P ops S oi v ⟨ts, ds⟩) (hS : S w)
    (h : wpAnyP P md ops Q S p fuel l' ⟨ts.setIfInBounds d v, ds⟩ w) : wpAnyP P md ops Q S p (fuel + 1) listed ⟨ts, ds⟩ w := by
  subst hl
  refine wpAnyP_take hi hs hf hr hz hp hip hQ hy hS ?_
  rw [hd]; exact h
theorem P_takeW (i d : Nat) (v : Value) (l' : Array Bool) {oi : Oper} {fuel : Nat} {listed : Array Bool} {ts : Array Value} {ds : List Deferred} {w : World} (hi : ops[i]? = some oi) (hd : oi.dst = some d) (hl : listed.setIfInBounds i true = l')
    (hs : Region.noSelect ops = true) (hf : Region.free md ops listed i = true) (hr : (Region.ready md ops listed).contains i = true) (hip : p ≠ i)
    (hQ : ∀ c a w, Q (.panic c) (a.put oi.dst v) w → Q (.panic c) a w) (hy : YieldsIf P ops (fun _ => True) oi v ⟨ts, ds⟩) (hS : S w)
    (h : wpAnyP P md ops Q S p fuel l' ⟨ts.setIfInBounds d v, ds⟩ w) : wpAnyP P md ops Q S p (fuel + 1) listed ⟨ts, ds⟩ w := by
  subst hl
  refine wpAnyP_takeW hi hs hf hr hip hQ hy hS ?_
  rw [hd]; exact h
theorem P_one (i : Nat) (l' : Array Bool) {oi : Oper} {fuel : Nat} {listed : Array Bool} {a : Act} {w : World} (hi : ops[i]? = some oi) (hl : listed.setIfInBounds i true = l') (hr : Region.ready md ops listed = [i]) (hg : oi.guard = none) (hp : l'.getD p true = true)
    (h : ∀ K : Act → World → Prop, (∀ a' w', wpAnyP P md ops Q S p fuel l' a' w' → K a' w') → oi.wp P a w K Q) : wpAnyP P md ops Q S p (fuel + 1) listed a w := by
  subst hl; exact wpAnyP_one hi hr hg hp h
theorem P_oneS (i : Nat) (l' : Array Bool) {oi : Oper} {fuel : Nat} {listed : Array Bool} {a : Act} {w : World} (hi : ops[i]? = some oi) (hl : listed.setIfInBounds i true = l') (hr : Region.ready md ops listed = [i]) (hg : oi.guard = none)
    (h : ∀ K : Act → World → Prop, (∀ a' w', S w' → wpAnyP P md ops Q S p fuel l' a' w' → K a' w') → oi.wp P a w K Q) : wpAnyP P md ops Q S p (fuel + 1) listed a w := by
  subst hl
  refine ⟨fun h0 => ?_, fun j hj => ?_⟩
  · rw [hr] at h0
    cases h0
  · rw [hr] at hj
    have hj' : j = i := by simpa using hj
    subst hj'
    unfold wpOp
    simp only [hi]
    rw [if_pos (by simp [Region.wanted, hg])]
    exact .inl (h _ fun _ _ h1 h2 => ⟨fun _ => h1, h2⟩)
/-- as P_takeW, behind p -/
theorem P_takeX (i d : Nat) (v : Value) (l' : Array Bool) {oi : Oper} {fuel : Nat} {listed : Array Bool} {ts : Array Value} {ds : List Deferred} {w : World} (hi : ops[i]? = some oi) (hd : oi.dst = some d) (hl : listed.setIfInBounds i true = l')
    (hs : Region.noSelect ops = true) (hf : Region.free md ops listed i = true) (hr : (Region.ready md ops listed).contains i = true) (hip : p ≠ i)
    (hQ : ∀ c a w, Q (.panic c) (a.put oi.dst v) w → Q (.panic c) a w) (hy : YieldsIf P ops (fun _ => True) oi v ⟨ts, ds⟩) (hp : listed.getD p true = true)
    (h : wpAnyP P md ops Q S p fuel l' ⟨ts.setIfInBounds d v, ds⟩ w) : wpAnyP P md ops Q S p (fuel + 1) listed ⟨ts, ds⟩ w := by
  subst hl
  refine wpAnyP_first (needs := False) hi (Region.noSelect_spec hs) hQ (fun w h => trivial) (fun h => h.elim) hip fuel listed _ w (Region.free_spec hi hf) (by simpa using hr) hy (fun h => h.elim) (fun h => by rw [hp] at h; cases h) ?_
  rw [hd]; exact h
/-- as P_one, of a guarded operation that is wanted -/
theorem P_oneG (i : Nat) (l' : Array Bool) {oi : Oper} {fuel : Nat} {listed : Array Bool} {a : Act} {w : World} (hi : ops[i]? = some oi) (hl : listed.setIfInBounds i true = l') (hr : Region.ready md ops listed = [i]) (hg : Region.wanted oi (yielded ops a.tmps) = true) (hp : l'.getD p true = true)
    (h : ∀ K : Act → World → Prop, (∀ a' w', wpAnyP P md ops Q S p fuel l' a' w' → K a' w') → oi.wp P a w K Q) : wpAnyP P md ops Q S p (fuel + 1) listed a w := by
  subst hl
  refine ⟨fun h0 => ?_, fun j hj => ?_⟩
  · rw [hr] at h0
    cases h0
  · rw [hr] at hj
    have hj' : j = i := by simpa using hj
    subst hj'
    unfold wpOp
    simp only [hi]
    rw [if_pos hg]
    exact .inl (h _ fun _ _ h2 => ⟨fun h9 => (by rw [hp] at h9; cases h9), h2⟩)
theorem P_two (i j : Nat) (l1 l2 : Array Bool) {oi oj : Oper} {fuel : Nat} {listed : Array Bool} {a : Act} {w : World} (hi : ops[i]? = some oi) (hj : ops[j]? = some oj) (e1 : listed.setIfInBounds i true = l1) (e2 : listed.setIfInBounds j true = l2) (hr : Region.ready md ops listed = [i, j]) (gi : oi.guard = none) (gj : oj.guard = none) (hS : ∀ w, S w)
    (h1 : ∀ K : Act → World → Prop, (∀ a' w', wpAnyP P md ops Q S p fuel l1 a' w' → K a' w') → oi.wp P a w K Q)
    (h2 : ∀ K : Act → World → Prop, (∀ a' w', wpAnyP P md ops Q S p fuel l2 a' w' → K a' w') → oj.wp P a w K Q) : wpAnyP P md ops Q S p (fuel + 1) listed a w := by
  subst e1; subst e2; exact wpAnyP_two hi hj hr gi gj hS h1 h2
theorem P_three (i j k : Nat) (l1 l2 l3 : Array Bool) {oi oj ok : Oper} {fuel : Nat} {listed : Array Bool} {a : Act} {w : World} (hi : ops[i]? = some oi) (hj : ops[j]? = some oj) (hk : ops[k]? = some ok) (e1 : listed.setIfInBounds i true = l1) (e2 : listed.setIfInBounds j true = l2) (e3 : listed.setIfInBounds k true = l3)
    (hr : Region.ready md ops listed = [i, j, k]) (gi : oi.guard = none) (gj : oj.guard = none) (gk : ok.guard = none) (hS : ∀ w, S w)
    (h1 : ∀ K : Act → World → Prop, (∀ a' w', wpAnyP P md ops Q S p fuel l1 a' w' → K a' w') → oi.wp P a w K Q)
    (h2 : ∀ K : Act → World → Prop, (∀ a' w', wpAnyP P md ops Q S p fuel l2 a' w' → K a' w') → oj.wp P a w K Q)
    (h3 : ∀ K : Act → World → Prop, (∀ a' w', wpAnyP P md ops Q S p fuel l3 a' w' → K a' w') → ok.wp P a w K Q) : wpAnyP P md ops Q S p (fuel + 1) listed a w := by
  subst e1; subst e2; subst e3; exact wpAnyP_three hi hj hk hr gi gj gk hS h1 h2 h3
theorem P_done {listed : Array Bool} {a : Act} {w : World} (hr : Region.ready md ops listed = []) (h : Q .normal a w) : ∀ fuel, wpAnyP P md ops Q S p fuel listed a w := wpAnyP_done hr h
theorem wp_mkd {w : World} {o : Oper} {ts : Array Value} {ds : List Deferred} {K : Act → World → Prop} {Q : Exit → Act → World → Prop} (d : Nat) (l r : Operand) (t : TypeId) {e : TypeId} {n : Nat}
    (ho : o.op = .makeSlice t l r) (hd : o.dst = some d) {z : Value} {bytes : Nat} (hE : El P t e z bytes) {kl kr : IntKind} (hs : (⟨ts, ds⟩ : Act).eval l = .int kl (n : Int)) (hx : (⟨ts, ds⟩ : Act).eval r = .int kr (n : Int))
    (hby : bytes * n ≤ 281474976710656) (hm : n ≤ maxLen)
    (h : ∀ A w', Ownv e w' w.heap.size A n n (List.replicate n z) → Below w.heap.size w w' → A ≠ none → K ⟨ts.setIfInBounds d (.slice A n n), ds⟩ w') : o.wp P ⟨ts, ds⟩ w K Q :=
  wp_mk l r t ho hE hs hx hby hm fun A w' h1 h2 h3 => by rw [hd]; exact h A w' h1 h2 h3
end
end Go.Proofs.YtpdalbckmfadbaaGreat

