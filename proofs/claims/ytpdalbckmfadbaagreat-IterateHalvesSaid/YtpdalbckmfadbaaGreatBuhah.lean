/-
  Bundle of the texts Ca Cb Cc Cd. Conditions: none.
-/
import Derived.Test.YtpdalbckmfadbaaGreatBuhag
namespace Go.Proofs.YtpdalbckmfadbaaGreat
open Go.RowKit
set_option linter.unusedVariables false
theorem sign_any (t : Nat) (ht : t < 2) (w : World) : Calls Tryz.prog 105 #[.int .i64 (t : Int)] w fun e w' => e = .returned (.int .i64 (1 - 2 * (t : Int))) ∧ w = w' := by
  go_enter Tryz.func105, Tryz.ntmps105
  go_wp2
  go_ret
  exact ⟨rfl, rfl⟩
theorem input_any (S A : Option Addr) (cs ca : Nat) (o : Ob) (i : Nat) (w : World) (hS : Rd .i64 w S o.s.length cs o.s) (hA : Rd .i64 w A o.a.length ca o.a) (ho : o.ok) (hi : i < o.s.length) :
    Calls Tryz.prog 104 #[.slice S o.s.length cs, .slice A o.a.length ca, .int .i64 (i : Int)] w fun e w' => e = .returned (.int .i64 (o.x i)) ∧ Qt w w' := by
  have hsv : -127 ≤ gi o.s i ∧ gi o.s i ≤ 127 := ho.2.2.2.2.1 _ (gi_mem o.s i hi)
  have hixS := fun W => Rdv.ix hS el22 hi .i64 W
  have hcS := Rd.cell hS hi
  have hbd := (Rdv.bd hA).1
  by_cases hk : i < o.a.length
  · have hixA := fun W => Rdv.ix hA el22 hk .i64 W
    have hcA := Rd.cell hA hk
    have hav : -127 ≤ gi o.a i ∧ gi o.a i ≤ 127 := ho.2.2.2.2.2.2 _ (gi_mem o.a i hk)
    have ex : o.x i = gi o.s i + gi o.a i := by unfold Ob.x; rw [if_pos (show i < o.k from hk)]
    rw [ex]
    have w5 : IntKind.i64.wrap (gi o.s i + gi o.a i) = gi o.s i + gi o.a i := IntWalk.i64_in _ (by omega)
    clear hS hA ho ex
    generalize gi o.s i = sv at *
    generalize gi o.a i = av at *
    go_enter Tryz.func104, Tryz.ntmps104
    go_wp2
    go_quiet (fail)
    go_wp2
    go_ret
    exact ⟨rfl, _, rfl⟩
  · have ex : o.x i = gi o.s i := by unfold Ob.x; rw [if_neg (show ¬ i < o.k from hk)]
    rw [ex]
    clear hS hA ho ex
    generalize gi o.s i = sv at *
    go_enter Tryz.func104, Tryz.ntmps104
    go_wp2
    go_ret
    exact ⟨rfl, Qt.refl _⟩
theorem allowed_any (b : Br) (t : Bool) (w : World) (hb : b ∈ brT) :
    Calls Tryz.prog 141 #[brA b, .bool t] w fun e w' => e = .returned (.bool (!t || decide (b.bt = tailBit b.fr))) ∧ Below w.heap.size w w' := by
  obtain ⟨b1, b2, b3, b4⟩ := br_bd b hb
  unfold brA
  cases t with
  | false =>
    go_enter Tryz.func141, Tryz.ntmps141
    go_wp2
    go_ret
    exact ⟨rfl, (Below.refl _ w).alloc (Nat.le_refl _) _⟩
  | true =>
    go_enter Tryz.func141, Tryz.ntmps141
    go_wp2
    go_ret
    refine ⟨ret_bool ?_, (Below.refl _ w).alloc (Nat.le_refl _) _⟩
    have e1 : ((tailBit b.fr : Nat) : Int) = ((b.fr : Int) / 2 + (b.fr : Int)) % 2 := by unfold tailBit; omega
    rw [← e1, Bool.not_true, Bool.false_or]
    by_cases e : b.bt = tailBit b.fr
    · rw [beq_t (by omega)]; simp [e]
    · rw [beq_f (by omega)]; simp [e]
theorem extr_any (v : Int) (w : World) (hv : -3000000000000000000 ≤ v ∧ v ≤ 3000000000000000000) : Calls Tryz.prog 106 #[.int .i64 v] w fun e w' => e = .returned (.int .i64 (ext v)) ∧ w = w' := by
  have hq := tdiv_bd (3 * v) 4 (by omega) 9000000000000000000 (by omega)
  have v3 : IntKind.i64.wrap (3 * v) = 3 * v := IntWalk.i64_in _ (by omega)
  have v4 : IntKind.i64.wrap ((3 * v).tdiv 4) = (3 * v).tdiv 4 := IntWalk.i64_in _ (by omega)
  have HE := Lib.hid (show ext v = min (max ((3 * v).tdiv 4) (-127)) 127 from rfl)
  go_enter Tryz.func106, Tryz.ntmps106
  go_wp2
  all_goals
    go_ret
    refine ⟨ret_int ?_, rfl⟩
    rw [HE.out]
    (repeat' split) <;> omega
end Go.Proofs.YtpdalbckmfadbaaGreat

namespace Go.Proofs.YtpdalbckmfadbaaGreat
open Go.RowKit
set_option linter.unusedVariables false
/-- what an element type of sz cells owes -/
structure ElR (P : Program) (t e : TypeId) (z : Value) (sz bytes : Nat) : Prop where
  u : P.underlying t = some (.slice e)
  i : (P.info? e).map (fun i => (i.zero, i.size, i.bytes)) = some (some z, sz, bytes)
  s : ∀ W, (sizeOf e).run P W = .ok sz W
  c : z.cells.size = sz
  p : 0 < sz
/-- a slice of rows, the call's own -/
structure Rw (e : TypeId) (sz : Nat) (W : World) (base : Nat) (A : Option Addr) (cap : Nat) (rs : List (List Value)) : Prop where
  ow : W.ownsRow base e sz (.slice A rs.length cap) rs.length rs.flatten
  l : ∀ r ∈ rs, r.length = sz
theorem flatR (sz : Nat) : ∀ (rs : List (List Value)) (h : ∀ r ∈ rs, r.length = sz) (j q : Nat) (r : List Value), rs[j]? = some r → q < sz → rs.flatten[sz * j + q]? = r[q]?
  | [], h, j, q, m, hm, hq => by simp at hm
  | x :: ms, h, 0, q, m, hm, hq => by
    simp at hm; subst hm
    have hx : x.length = sz := h x (by simp)
    rw [List.flatten_cons, List.getElem?_append_left (by omega), Nat.mul_zero, Nat.zero_add]
  | x :: ms, h, j + 1, q, m, hm, hq => by
    have hx : x.length = sz := h x (by simp)
    rw [List.flatten_cons, List.getElem?_append_right (by rw [hx, Nat.mul_add]; omega), hx, show sz * (j + 1) + q - sz = sz * j + q from by rw [Nat.mul_add]; omega]
    exact flatR sz ms (fun m' hm' => h m' (by simp [hm'])) j q m (by simpa using hm) hq
section
variable {P : Program} {W W' : World} {base cap e sz : Nat} {A : Option Addr} {rs : List (List Value)}
theorem Rw.cases (h : Rw e sz W base A cap rs) : (A = none ∧ rs = [] ∧ cap = 0) ∨ ∃ bg cur, A = some ⟨bg, 0, none⟩ ∧ W.heap[bg]? = some (.cells cur e (0, 0)) ∧ base ≤ bg ∧ rs.length ≤ cap ∧ cap ≤ maxLen ∧ cur.size = cap * sz ∧ cur.toList.take (rs.length * sz) = rs.flatten := by
  obtain ⟨h1, h2⟩ := h.ow
  rcases h2 with ⟨h2, h3⟩ | ⟨g, cap', cur, h2, h3, h4, h5, h6, h7, h8⟩
  · left
    simp only [Value.slice.injEq] at h2
    exact ⟨h2.1, List.eq_nil_of_length_eq_zero h3, h2.2.2⟩
  · right
    simp only [Value.slice.injEq, true_and] at h2
    obtain ⟨rfl, rfl⟩ := h2
    exact ⟨g, cur, rfl, h4, h3, h5, h6, h7, h8⟩
theorem Rw.ge (h : Rw e sz W base A cap rs) (hA : A ≠ none) : base ≤ blk A ∧ blk A < W.heap.size := by
  rcases h.cases with ⟨h1, -⟩ | ⟨bg, cur, rfl, h1, h2, -⟩
  · exact absurd h1 hA
  · exact ⟨h2, heap_lt' h1⟩
theorem Rw.keep (h : Rw e sz W base A cap rs) (hk : ∀ b, b < W.heap.size → (A ≠ none → b = blk A) → A ≠ none → W'.heap[b]? = W.heap[b]?) : Rw e sz W' base A cap rs := by
  rcases h.cases with ⟨rfl, rfl, rfl⟩ | ⟨bg, cur, rfl, h1, h2, h3, h4, h5, h6⟩
  · exact ⟨⟨by simp, .inl ⟨rfl, rfl⟩⟩, h.l⟩
  · exact ⟨⟨h.ow.1, .inr ⟨bg, cap, cur, rfl, h2, (hk bg (heap_lt' h1) (fun _ => rfl) (by simp)).trans h1, h3, h4, h5, h6⟩⟩, h.l⟩
theorem Rw.below (h : Rw e sz W base A cap rs) (hB : Below W.heap.size W W') : Rw e sz W' base A cap rs := h.keep fun b hb _ _ => hB.block b hb
theorem Rw.alloc (h : Rw e sz W base A cap rs) (o : Obj) : Rw e sz (W.alloc o) base A cap rs := h.keep fun b hb _ _ => heap_alloc_old (h := hb) ..
theorem Rw.grown (h : Rw e sz W base A cap rs) {row : Option Nat} (hg : W.grownBy W' row) (hne : A ≠ none → some (blk A) ≠ row) : Rw e sz W' base A cap rs := h.keep fun b hb h1 h2 => hg.block b hb (by rw [h1 h2]; exact hne h2)
theorem Rw.row (h : Rw e sz W base A cap rs) {j : Nat} {r : List Value} (hj : rs[j]? = some r) : W.rangeAt (blk A) (sz * j) r := fun q v hv => by
  have hr : r.length = sz := h.l r (List.mem_of_getElem? hj)
  have hq : q < sz := by have := (List.getElem?_eq_some_iff.1 hv).1; omega
  have hjl : j < rs.length := (List.getElem?_eq_some_iff.1 hj).1
  rcases h.cases with ⟨rfl, rfl, rfl⟩ | ⟨bg, cur, rfl, h1, h2, h3, h4, h5, h6⟩
  · simp at hj
  show W.cell? ⟨bg, sz * j + q, none⟩ = some v
  rw [cell_of_row W bg _ cur e (0, 0) h1]
  have h7 := flatR sz rs h.l j q r hj hq
  have h8 : sz * j + q < rs.length * sz := by
    have : sz * (j + 1) ≤ rs.length * sz := by rw [Nat.mul_comm]; exact Nat.mul_le_mul_right _ hjl
    rw [Nat.mul_add] at this; omega
  rw [← h6, List.getElem?_take, if_pos h8, hv] at h7
  simpa using h7
theorem Rw.ptr (h : Rw e sz W base A cap rs) (hn : 0 < rs.length) : A = some ⟨blk A, 0, none⟩ := by
  rcases h.cases with ⟨rfl, rfl, rfl⟩ | ⟨bg, cur, rfl, -⟩
  · simp at hn
  · rfl
theorem Rw.nil (e sz : Nat) (W : World) (base : Nat) : Rw e sz W base none 0 [] := ⟨⟨by simp, .inl ⟨rfl, rfl⟩⟩, by simp⟩
/-- the address of a row -/
theorem ixR {t : TypeId} {z : Value} {bytes : Nat} (E : ElR P t e z sz bytes) (g n c : Nat) {j : Nat} (hj : j < n) (kd : IntKind) (W : World) : (Instr.indexAt t (.slice (some ⟨g, 0, none⟩) n c) (.int kd (j : Int))).run P W = .ok (.pointer (some ⟨g, sz * j, none⟩)) W := by
  have h1 : (0 : Int) ≤ (j : Int) ∧ (j : Int) < (n : Int) := by omega
  simp only [Instr.indexAt, Sem.run_bind, run_underlying E.u, Result.andThen_ok, asIntOf, Sem.run_pure, if_pos h1, E.s, Int.toNat_natCast]
  rw [add_lit, Nat.zero_add, Nat.mul_comm]
/-- append of one row -/
theorem wp_appR {o : Oper} {a : Act} {K : Act → World → Prop} {Q : Exit → Act → World → Prop} {t : TypeId} {z : Value} {bytes : Nat} (E : ElR P t e z sz bytes) (s x : Operand) (m : List Value) (hm : m.length = sz) (h1 : ∀ u ∈ m, u.oneCell' = true)
    (ho : o.op = .call { callee := .builtin .append, args := #[s, x], argTypes := #[t, t] }) (hs : a.eval s = .slice A rs.length cap) {N : Nat} (hN : N = W.heap.size) (hx : a.eval x = .slice (some ⟨N, 0, none⟩) 1 1)
    (hO : Rw e sz W base A cap rs) (hn : (rs.length + 1) * bytes ≤ 140737488355328) (hn2 : rs.length + 1 ≤ maxLen) (hbase : base ≤ W.heap.size)
    (h : ∀ A' cap' w', Rw e sz w' base A' cap' (rs ++ [m]) → W.grownBy w' (Value.slice A rs.length cap).ownBlock → A' ≠ none → K (a.put o.dst (.slice A' (rs.length + 1) cap')) w') : o.wp P a (W.alloc (.cells m.toArray e)) K Q := by
  subst hN
  obtain ⟨i, hi, hz0, hz1, hz2⟩ := info_parts E.i
  obtain ⟨v', w', hr, h2, h3, h4⟩ := run_append_own (P := P) (W.alloc (.cells m.toArray e)) base t o.type e i _ sz bytes E.u hi hz0 hz1 hz2 E.c E.p _ rs.length _ (hO.alloc _).ow ⟨W.heap.size, 0, none⟩ 1 1 m (by simp [hm])
    (fun j u hj => by
      rw [add_lit, cell_of_row _ W.heap.size _ _ _ (0, 0) (heap_alloc_new _ _)]
      simpa using hj) h1 hn2 hn (by simp; omega)
  rcases h2.2 with ⟨h5, h6⟩ | ⟨g, cap', cur, h5, _⟩
  · omega
  · rw [h5] at hr h2
    have h6 : Rw e sz w' base (some ⟨g, 0, none⟩) cap' (rs ++ [m]) := ⟨by simpa [List.flatten_append] using h2, fun m' hm' => by
      rw [List.mem_append] at hm'
      rcases hm' with hm' | hm'
      · exact hO.l m' hm'
      · simp at hm'; subst hm'; exact hm⟩
    unfold Oper.wp
    simp only [execOp, ho, resolve, invoke, builtin, Sem.run_bind, Sem.run_pure, Result.andThen_ok, List.map_toArray, List.map_cons, List.map_nil, hs, hx, hr]
    exact h _ cap' w' h6 (grownBy_of_alloc h3) (by simp)
/-- make -/
theorem wp_mkR {o : Oper} {ts : Array Value} {ds : List Deferred} {K : Act → World → Prop} {Q : Exit → Act → World → Prop} (d : Nat) (l r : Operand) (t : TypeId) {z z0 : Value} {bytes n : Nat}
    (ho : o.op = .makeSlice t l r) (hd : o.dst = some d) (E : ElR P t e z sz bytes) (hz : z.cells = (List.replicate sz z0).toArray) {kl kr : IntKind} (hs : (⟨ts, ds⟩ : Act).eval l = .int kl (n : Int)) (hx : (⟨ts, ds⟩ : Act).eval r = .int kr (n : Int))
    (hby : bytes * n ≤ 281474976710656) (hm : n ≤ maxLen)
    (h : ∀ w', W.heap.size = W.heap.size → Blk w' W.heap.size e (List.replicate (n * sz) z0) → w'.heap.size = W.heap.size + 1 → Below W.heap.size W w' → K ⟨ts.setIfInBounds d (.slice (some ⟨W.heap.size, 0, none⟩) n n), ds⟩ w') : o.wp P ⟨ts, ds⟩ W K Q := by
  obtain ⟨i, hi, hz0, hz1, hz2⟩ := info_parts E.i
  have hb' : ((bytes : Nat) : Int) * (n : Int) ≤ 281474976710656 := by
    have h' : ((bytes * n : Nat) : Int) ≤ 281474976710656 := by omega
    rwa [Int.natCast_mul] at h'
  have hr := run_make (P := P) W t e i z E.u hi hz0 kl kr n n (by omega) (Int.le_refl _) (by rw [hz2]; exact hb') (by unfold maxLen at hm; omega)
  simp only [Int.toNat_natCast] at hr
  have hmc : madeCells z.cells (n * i.size) = (List.replicate (n * sz) z0).toArray := by
    have hp := E.p
    rw [hz1, hz]
    apply Array.ext
    · simp [madeCells]
    · intro j h1 h2
      have hj : j < n * sz := by simpa [madeCells] using h1
      have hmod : j % sz < sz := Nat.mod_lt _ hp
      simp [madeCells, hmod]
  unfold Oper.wp
  simp only [execOp, ho, Sem.run_bind, Sem.run_pure, Result.andThen_ok, hs, hx, hr]
  refine (show K (Act.put ⟨ts, ds⟩ o.dst _) _ from ?_)
  rw [hd, hmc]
  exact h _ rfl (Blk.new W _ e rfl) (by simp) ((Below.refl _ _).alloc (Nat.le_refl _) _)
end
end Go.Proofs.YtpdalbckmfadbaaGreat

namespace Go.Proofs.YtpdalbckmfadbaaGreat
open Go.RowKit
set_option linter.unusedVariables false
theorem er77 : ElR Tryz.prog 158 161 (.agg #[.int .i64 0, .int .i64 0, .int .i64 0, .int .i64 0]) 4 32 := ⟨Tryz.underlying158, by kernel_rfl, fun W => by kernel_rfl, rfl, by decide⟩
theorem run_bs60 (m : List Int) (hm : m.length = 4) (W : World) : (Instr.buildSlice 158 1 #[(0, .agg (ints8 m).toArray)]).run Tryz.prog W = .ok (.slice (some ⟨W.heap.size, 0, none⟩) 1 1) (W.alloc (.cells (ints8 m).toArray 161)) := by
  obtain ⟨i, hi, hz0, hz1, hz2⟩ := info_parts er77.i
  match m, hm with
  | [a, b, c, d], _ =>
    refine run_buildSlice (P := Tryz.prog) W 158 161 1 _ _ i _ Tryz.underlying158 hi hz0 (by rw [hz1]; decide) (by rw [hz1]; decide) ?_
    rw [hz1]
    first
      | kernel_rfl
      | (simp [Instr.fill, Value.cells, ints8, List.zipIdx, List.range, List.range.loop, Array.range]; done)
theorem wp_bs60 {o : Oper} {a : Act} {W : World} {K : Act → World → Prop} {Q : Exit → Act → World → Prop} (x : Operand) (m : List Int) (hm : m.length = 4) (ho : o.op = .buildSlice 158 1 #[(0, x)]) (hx : a.eval x = .agg (ints8 m).toArray)
    (h : K (a.put o.dst (.slice (some ⟨W.heap.size, 0, none⟩) 1 1)) (W.alloc (.cells (ints8 m).toArray 161))) : o.wp Tryz.prog a W K Q := by
  unfold Oper.wp
  have hp : (#[(0, x)] : Array (Nat × Operand)).map (fun (i, x) => (i, a.eval x)) = #[(0, .agg (ints8 m).toArray)] := by simp [hx]
  simp only [execOp, ho, hp, run_bs60 m hm, Sem.run_bind, Sem.run_pure, Result.andThen_ok]
  exact h
def brR (j : Nat) : List (List Value) := (brT.take j).map brV
theorem brR_len (j : Nat) (hj : j ≤ 16) : (brR j).length = j := by
  have : brT.length = 16 := rfl
  simp [brR]; omega
theorem brR_succ (j : Nat) (hj : j < brT.length) : brR (j + 1) = brR j ++ [brV brT[j]] := by
  unfold brR; rw [List.take_succ_eq_append_getElem hj, List.map_append]; rfl
def BrI (w : World) (p : Nat) (o : Value) (wr : World) : Prop := ∃ A cap, o = .slice A p cap ∧ Rw 161 4 wr w.heap.size A cap (brR p) ∧ Below w.heap.size w wr
set_option maxRecDepth 100000 in
set_option maxHeartbeats 1000000 in
theorem rbranches_any (w : World) : Calls Tryz.prog 103 #[] w fun e w' => ∃ A cap, e = .returned (.slice A 16 cap) ∧ Rw 161 4 w' w.heap.size A cap (brR 16) ∧ Below w.heap.size w w' := by
  go_enter Tryz.func103, Tryz.ntmps103
  go_wp2
  go_loopw [1, 2] (fun o s wr => ∃ s' : Nat, s' ≤ 8 ∧ s = .int .i64 s' ∧ BrI w (2 * s') o wr) (fun _ s _ => 8 - (intOf s).toNat)
  case atStart => exact ⟨0, by omega, rfl, none, 0, rfl, Rw.nil 161 4 w _, Below.refl _ w⟩
  case round =>
    obtain ⟨s', hs', rfl, A0, cap0, rfl, hR0, hB0⟩ := hrel
    by_cases hlt : s' < 8
    · obtain ⟨wo, rfl⟩ : ∃ wo : World, wo = wr := ⟨_, rfl⟩
      have HR0 := Lib.hid hR0
      have HB0 := Lib.hid hB0
      clear hR0 hB0
      have hd : decide ((s' : Int) < 8) = true := by simp; omega
      go_wp2_with fail
      go_loopw [1, 3, 4, 5, 14] (fun o b n p t wr => ∃ q : Nat, q ≤ 2 ∧ b = .int .i64 q ∧ BrI w (2 * s' + q) o wr) (fun _ b _ _ _ _ => 2 - (intOf b).toNat)
      case atStart => exact ⟨0, by omega, rfl, A0, cap0, rfl, HR0.out, HB0.out⟩
      case round =>
        obtain ⟨q, hq, rfl, A, cap, rfl, hR, hB⟩ := hrel
        by_cases hq2 : q < 2
        · have hj : 2 * s' + q < brT.length := by show _ < 16; omega
          obtain ⟨a, b, c, x, e1, e2, e3⟩ := tab_j (2 * s' + q) hj
          have e1' : (s' : Int) = stS (a, b, c) := by show _ = stI a b c; rw [← e1]; omega
          have e2' : (q : Int) = ib x := by rw [← e2]; omega
          have HT := Lib.hid (brR_succ (2 * s' + q) hj)
          have HE := Lib.hid e3
          have HL := Lib.hid (brR_len (2 * s' + q) (by show _ ≤ 16; have : brT.length = 16 := rfl; omega))
          have HR := Lib.hid hR
          have HB := Lib.hid hB
          have HST := Lib.hid (fun W => rstep_any (a, b, c) x W)
          have E1 := Lib.hid e1'
          have E2 := Lib.hid e2'
          clear e1 e2 e3 e1' e2' hR hB
          go_wp2_with fail
          have HST2 := HST.out
          rw [← E1.out, ← E2.out] at HST2
          refine (HST2 _).mono ?_
          rintro e w4 ⟨rfl, rfl⟩
          clear HST2
          go_wp2_with (first
            | (at_builtin; refine list_of rfl fun K hK => wp_appR er77 (.tmp 20) (.tmp 26) (rs := brR (2 * s' + q)) (ints8 [(s' : Int), (q : Int), ib (par (a, b, c) x), stS (stp (a, b, c) x)]) rfl (ints8_one _) rfl (by rw [HL.out]; rfl) rfl rfl HR.out (by rw [HL.out]; omega) (by rw [HL.out]; unfold maxLen; omega) HB.out.size ?_; intro A5 cap5 w5 h1 h2 h3; refine hK _ _ ?_; clear hK K; rw [HL.out]; have H1 := Lib.hid h1; have H2 := Lib.hid h2; clear h1 h2 h3)
            | (refine list_of rfl fun K hK => wp_bs60 (.tmp 25) [(s' : Int), (q : Int), ib (par (a, b, c) x), stS (stp (a, b, c) x)] rfl rfl rfl ?_; refine hK _ _ ?_; clear hK K))
          have HRN : Hid (Rw 161 4 w5 w.heap.size A5 cap5 (brR (2 * s' + (q + 1)))) := Lib.hid (by
            rw [show 2 * s' + (q + 1) = 2 * s' + q + 1 from rfl, HT.out, HE.out]
            have h := H1.out
            rw [show (s' : Int) = stI a b c from E1.out, show (q : Int) = ib x from E2.out] at h
            exact h)
          have HBN : Hid (Below w.heap.size w w5) := Lib.hid (HB.out.grown H2.out HB.out.size (fun k hk => by
            have h := HR.out
            rcases h.cases with ⟨rfl, -⟩ | ⟨bg, cur, rfl, h1, h2, -⟩
            · simp [Value.ownBlock] at hk
            · simp [Value.ownBlock] at hk; omega))
          go_roundw
          case rel => exact ⟨q + 1, by omega, by go_num, A5, cap5, rfl, HRN.out, HBN.out⟩
          case measure => simp [intOf]; omega
        · obtain rfl : q = 2 := by omega
          have HR := Lib.hid hR
          have HB := Lib.hid hB
          clear hR hB
          go_wp2
          go_roundw
          case rel => exact ⟨s' + 1, by omega, by go_num, A, cap, rfl, HR.out, HB.out⟩
          case measure => simp [intOf]; omega
    · obtain rfl : s' = 8 := by omega
      have HR0 := Lib.hid hR0
      have HB0 := Lib.hid hB0
      clear hR0 hB0
      go_wp2
      go_ret
      exact ⟨A0, cap0, rfl, HR0.out, HB0.out⟩
end Go.Proofs.YtpdalbckmfadbaaGreat

namespace Go.Proofs.YtpdalbckmfadbaaGreat
open Go.RowKit
set_option linter.unusedVariables false
theorem er65 : ElR Tryz.prog 155 162 (.agg (ints8 (List.replicate 8 0)).toArray) 8 64 := ⟨Tryz.underlying155, by kernel_rfl, fun W => by kernel_rfl, rfl, by decide⟩
/-- a table of N rows of eight -/
structure Mt (W : World) (b N : Nat) (g : Nat → List Int) : Prop where
  blk : Blk W b 162 ((List.range N).map fun q => ints8 (g q)).flatten
  l8 : ∀ q, q < N → (g q).length = 8
theorem flat_len (sz : Nat) : ∀ (rs : List (List Value)), (∀ r ∈ rs, r.length = sz) → rs.flatten.length = rs.length * sz
  | [], _ => by simp
  | x :: xs, h => by
    rw [List.flatten_cons, List.length_append, h x (by simp), flat_len sz xs (fun r hr => h r (by simp [hr])), List.length_cons, Nat.add_mul, Nat.one_mul, Nat.add_comm]
section
variable {W W' : World} {b N : Nat} {g g' : Nat → List Int}
theorem mt_rows (h : ∀ q, q < N → (g q).length = 8) : ∀ r ∈ (List.range N).map (fun q => ints8 (g q)), r.length = 8 := by
  intro r hr
  obtain ⟨q, hq, rfl⟩ := List.mem_map.1 hr
  simp [ints8, h q (by simpa using hq)]
theorem mt_get (h : ∀ q, q < N → (g q).length = 8) {i k : Nat} (hi : i < N) (hk : k < 8) : ((List.range N).map fun q => ints8 (g q)).flatten[8 * i + k]? = some (.int .i64 (gi (g i) k)) := by
  rw [flatR 8 _ (mt_rows h) i k (ints8 (g i)) (by simp [hi]) hk]
  have : k < (g i).length := by rw [h i hi]; exact hk
  simp [ints8, gi, List.getD, this]
theorem Mt.cell (h : Mt W b N g) {i k : Nat} (hi : i < N) (hk : k < 8) : W.cell? ⟨b, 8 * i + k, none⟩ = some (.int .i64 (gi (g i) k)) := h.blk.cell (mt_get h.l8 hi hk)
theorem Mt.congr (h : Mt W b N g) (he : ∀ q, q < N → g q = g' q) : Mt W b N g' := by
  have e : ((List.range N).map fun q => ints8 (g q)) = ((List.range N).map fun q => ints8 (g' q)) := List.map_congr_left fun q hq => by rw [he q (by simpa using hq)]
  exact ⟨by rw [← e]; exact h.blk, fun q hq => by rw [← he q hq]; exact h.l8 q hq⟩
def updM (g : Nat → List Int) (i k : Nat) (v : Int) : Nat → List Int := fun q => if q = i then (g i).set k v else g q
theorem Mt.set (h : Mt W b N g) {i k : Nat} (hi : i < N) (hk : k < 8) (v : Int) : Mt (W.setCell ⟨b, 8 * i + k, none⟩ (.int .i64 v)) b N (updM g i k v) := by
  have l8' : ∀ q, q < N → (updM g i k v q).length = 8 := fun q hq => by
    unfold updM
    split
    · rw [List.length_set]; exact h.l8 i hi
    · exact h.l8 q hq
  refine ⟨?_, l8'⟩
  have h1 := h.blk.set (8 * i + k) (.int .i64 v)
  have e : ((List.range N).map fun q => ints8 (g q)).flatten.set (8 * i + k) (.int .i64 v) = ((List.range N).map fun q => ints8 (updM g i k v q)).flatten := by
    apply List.ext_getElem?
    intro p
    by_cases hp : p < N * 8
    · obtain ⟨a, c, hc, rfl⟩ : ∃ a c, c < 8 ∧ p = 8 * a + c := ⟨p / 8, p % 8, Nat.mod_lt _ (by omega), by omega⟩
      have ha : a < N := by omega
      rw [mt_get l8' ha hc, List.getElem?_set, mt_get h.l8 ha hc]
      have hlen : 8 * i + k < ((List.range N).map fun q => ints8 (g q)).flatten.length := by rw [flat_len 8 _ (mt_rows h.l8)]; simp; omega
      by_cases hia : i = a
      · subst hia
        by_cases hkc : k = c
        · subst hkc
          rw [if_pos rfl, if_pos hlen]
          simp [updM, gi_set' _ _ _ _ (by rw [h.l8 i hi]; exact hk)]
        · rw [if_neg (by omega)]
          simp [updM, gi_set' _ _ _ _ (by rw [h.l8 i hi]; exact hc), hkc]
      · rw [if_neg (by omega)]
        simp [updM, Ne.symm hia]
    · rw [List.getElem?_eq_none (by rw [List.length_set, flat_len 8 _ (mt_rows h.l8)]; simp; omega), List.getElem?_eq_none (by rw [flat_len 8 _ (mt_rows l8')]; simp; omega)]
  rw [e] at h1
  exact h1
theorem Mt.below (h : Mt W b N g) (hB : Below W.heap.size W W') : Mt W' b N g := ⟨h.blk.below hB, h.l8⟩
theorem Mt.grown (h : Mt W b N g) {r : Nat} (hg : W.grownBy W' (some r)) (hne : b ≠ r) : Mt W' b N g := ⟨h.blk.grown hg hne, h.l8⟩
theorem Mt.new (h : Blk W b 162 (List.replicate (N * 8) (.int .i64 0))) : Mt W b N (fun _ => List.replicate 8 0) := by
  refine ⟨?_, fun _ _ => List.length_replicate ..⟩
  have e : ((List.range N).map fun _ => ints8 (List.replicate 8 0)).flatten = List.replicate (N * 8) (.int .i64 0) := by
    apply List.ext_getElem?
    intro p
    have hr : ∀ q, q < N → ((fun _ => List.replicate 8 0 : Nat → List Int) q).length = 8 := fun _ _ => by simp
    by_cases hp : p < N * 8
    · obtain ⟨a, c, hc, rfl⟩ : ∃ a c, c < 8 ∧ p = 8 * a + c := ⟨p / 8, p % 8, Nat.mod_lt _ (by omega), by omega⟩
      have := mt_get (g := fun _ => List.replicate 8 0) (N := N) hr (i := a) (k := c) (by omega) hc
      rw [this, List.getElem?_replicate, if_pos hp, gi_eq _ _ (by simpa using hc), List.getElem_replicate]
    · rw [List.getElem?_eq_none (by rw [flat_len 8 _ (mt_rows (g := fun _ => List.replicate 8 0) hr)]; simp; omega), List.getElem?_eq_none (by simp; omega)]
  rw [e]; exact h
end
/-- where the two tables and the branches lie -/
structure Sw (w : World) (bf bg N bA cap : Nat) (wr : World) (F G : Nat → List Int) : Prop where
  f : Mt wr bf N F
  g : Mt wr bg N G
  r : Rw 161 4 wr w.heap.size (some ⟨bA, 0, none⟩) cap (brR 16)
  bl : Below w.heap.size w wr
structure SwS (w : World) (bf bg bA : Nat) : Prop where
  fg : bf ≠ bg
  fA : bf ≠ bA
  gA : bg ≠ bA
  hf : w.heap.size ≤ bf
  hg : w.heap.size ≤ bg
section
variable {w wr w' : World} {bf bg N bA cap : Nat} {F G F' G' : Nat → List Int}
theorem Sw.call (h : Sw w bf bg N bA cap wr F G) (hB : Below wr.heap.size wr w') : Sw w bf bg N bA cap w' F G := ⟨h.f.below hB, h.g.below hB, h.r.below hB, h.bl.trans (hB.mono h.bl.size)⟩
theorem Sw.setF (h : Sw w bf bg N bA cap wr F G) (hs : SwS w bf bg bA) {i k : Nat} (hi : i < N) (hk : k < 8) (v : Int) : Sw w bf bg N bA cap (wr.setCell ⟨bf, 8 * i + k, none⟩ (.int .i64 v)) (updM F i k v) G := by
  have hg := grownBy_set wr bf (8 * i + k) (.int .i64 v)
  exact ⟨h.f.set hi hk v, h.g.grown hg (Ne.symm hs.fg), h.r.grown hg (fun _ => by simp [blk]; exact Ne.symm hs.fA), h.bl.setCell hs.hf _⟩
theorem Sw.setG (h : Sw w bf bg N bA cap wr F G) (hs : SwS w bf bg bA) {i k : Nat} (hi : i < N) (hk : k < 8) (v : Int) : Sw w bf bg N bA cap (wr.setCell ⟨bg, 8 * i + k, none⟩ (.int .i64 v)) F (updM G i k v) := by
  have hg := grownBy_set wr bg (8 * i + k) (.int .i64 v)
  exact ⟨h.f.grown hg hs.fg, h.g.set hi hk v, h.r.grown hg (fun _ => by simp [blk]; exact Ne.symm hs.gA), h.bl.setCell hs.hg _⟩
theorem Sw.congr (h : Sw w bf bg N bA cap wr F G) (hF : ∀ q, q < N → F q = F' q) (hG : ∀ q, q < N → G q = G' q) : Sw w bf bg N bA cap wr F' G' := ⟨h.f.congr hF, h.g.congr hG, h.r, h.bl⟩
end
/-- the tables, step by step -/
def initF (i k q : Nat) : List Int := if q < i then noneL else if q = i then List.replicate k UU ++ List.replicate (8 - k) 0 else List.replicate 8 0
theorem initF_zero : initF 0 0 = fun _ => List.replicate 8 0 := by
  funext q; unfold initF
  by_cases h : q = 0
  · subst h; rfl
  · rw [if_neg (by omega), if_neg h]
theorem initF_next (i : Nat) : initF i 8 = initF (i + 1) 0 := by
  funext q; unfold initF
  by_cases h : q < i
  · rw [if_pos h, if_pos (by omega)]
  · rw [if_neg h]
    by_cases e : q = i
    · rw [if_pos e, if_pos (by omega)]; rfl
    · rw [if_neg e, if_neg (by omega)]
      by_cases e2 : q = i + 1
      · rw [if_pos e2]; rfl
      · rw [if_neg e2]
theorem initF_set (i k : Nat) (hk : k < 8) : updM (initF i k) i k UU = initF i (k + 1) := by
  funext q; unfold updM
  by_cases e : q = i
  · subst e
    rw [if_pos rfl]
    unfold initF
    rw [if_neg (by omega), if_pos rfl, if_neg (by omega), if_pos rfl]
    rcases (by omega : k = 0 ∨ k = 1 ∨ k = 2 ∨ k = 3 ∨ k = 4 ∨ k = 5 ∨ k = 6 ∨ k = 7) with rfl | rfl | rfl | rfl | rfl | rfl | rfl | rfl <;> rfl
  · rw [if_neg e]; unfold initF
    by_cases h : q < i
    · rw [if_pos h, if_pos h]
    · rw [if_neg h, if_neg e, if_neg h, if_neg e]
def fI (o : Ob) (i k q : Nat) : List Int := if q ≤ i then o.f q else if q = i + 1 then fN o i (o.f i) k else noneL
def bN' (o : Ob) (i : Nat) (m : List Int) (j : Nat) : List Int := (brT.take j).foldl (o.bB i m) noneL
def bI (o : Ob) (i k q : Nat) : List Int := if i < q then o.b q else if q = i then bN' o i (o.b (i + 1)) k else noneL
theorem fI_start (o : Ob) : ∀ q, updM (fun _ => noneL) 0 0 0 q = fI o 0 0 q := fun q => by
  unfold updM fI
  by_cases e : q = 0
  · subst e; rfl
  · rw [if_neg e, if_neg (by omega)]
    by_cases e2 : q = 0 + 1
    · rw [if_pos e2]; rfl
    · rw [if_neg e2]
theorem fI_next (o : Ob) (i : Nat) : fI o i 16 = fI o (i + 1) 0 := by
  funext q; unfold fI
  by_cases h : q ≤ i
  · rw [if_pos h, if_pos (by omega)]
  · rw [if_neg h]
    by_cases e : q = i + 1
    · subst e; rw [if_pos rfl, if_pos (Nat.le_refl _)]; rfl
    · rw [if_neg e, if_neg (by omega)]
      by_cases e2 : q = i + 1 + 1
      · rw [if_pos e2]; rfl
      · rw [if_neg e2]
theorem fI_set (o : Ob) (i k : Nat) (hk : k < 16) (h : o.allow i (brN k) = true ∧ UU < gi (o.f i) (brN k).fr) :
    updM (fI o i k) (i + 1) (brN k).tt (max (gi (fN o i (o.f i) k) (brN k).tt) (gi (o.f i) (brN k).fr + o.term i (brN k))) = fI o i (k + 1) := by
  funext q; unfold updM
  by_cases e : q = i + 1
  · subst e
    rw [if_pos rfl]
    unfold fI
    rw [if_neg (by omega), if_pos rfl, if_neg (by omega), if_pos rfl, fN_succ o i _ k hk]
    unfold Ob.fB
    rw [if_pos h]
  · rw [if_neg e]; unfold fI
    by_cases h1 : q ≤ i
    · rw [if_pos h1, if_pos h1]
    · rw [if_neg h1, if_neg e, if_neg h1, if_neg e]
theorem fI_same (o : Ob) (i k : Nat) (hk : k < 16) (h : ¬ (o.allow i (brN k) = true ∧ UU < gi (o.f i) (brN k).fr)) : fI o i (k + 1) = fI o i k := by
  funext q; unfold fI
  rw [fN_succ o i _ k hk]
  unfold Ob.fB
  rw [if_neg h]
theorem bN'_succ (o : Ob) (i : Nat) (m : List Int) (j : Nat) (hj : j < 16) : bN' o i m (j + 1) = o.bB i m (bN' o i m j) (brN j) := by
  unfold bN'; rw [br_take j hj, List.foldl_append]; rfl
theorem b_succ (o : Ob) (i : Nat) (hi : i < o.s.length) : o.b i = o.bwd i (o.b (i + 1)) := by
  unfold Ob.b
  rw [show o.s.length - i = (o.s.length - (i + 1)) + 1 from by omega]
  show o.bwd (o.s.length - 1 - (o.s.length - (i + 1))) _ = _
  rw [show o.s.length - 1 - (o.s.length - (i + 1)) = i from by omega]
theorem b_last (o : Ob) : o.b o.s.length = none0 := by unfold Ob.b; rw [Nat.sub_self]; rfl
theorem bI_start (o : Ob) (i : Nat) (hi : i + 1 = o.s.length) : ∀ q, q < o.s.length + 1 → updM (fun _ => noneL) o.s.length 0 0 q = bI o i 0 q := fun q hq => by
  unfold updM bI
  by_cases e : q = o.s.length
  · subst e; rw [if_pos rfl, if_pos (by omega), b_last]; rfl
  · rw [if_neg e, if_neg (by omega)]
    by_cases e2 : q = i
    · rw [if_pos e2]; rfl
    · rw [if_neg e2]
theorem bI_next (o : Ob) (i : Nat) (hi : i + 1 < o.s.length) : bI o (i + 1) 16 = bI o i 0 := by
  funext q; unfold bI
  by_cases h : i + 1 < q
  · rw [if_pos h, if_pos (by omega)]
  · rw [if_neg h]
    by_cases e : q = i + 1
    · subst e; rw [if_pos rfl, if_pos (by omega), b_succ o (i + 1) hi]; rfl
    · rw [if_neg e, if_neg (by omega)]
      by_cases e2 : q = i
      · rw [if_pos e2]; rfl
      · rw [if_neg e2]
theorem bI_end (o : Ob) (h0 : 0 < o.s.length) (q : Nat) : bI o 0 16 q = o.b q := by
  unfold bI
  by_cases h : 0 < q
  · rw [if_pos h]
  · rw [if_neg h, if_pos (by omega), show q = 0 from by omega, b_succ o 0 h0]; rfl
theorem bI_set (o : Ob) (i k : Nat) (hk : k < 16) (h : o.allow i (brN k) = true ∧ UU < gi (o.b (i + 1)) (brN k).tt) :
    updM (bI o i k) i (brN k).fr (max (gi (bN' o i (o.b (i + 1)) k) (brN k).fr) (gi (o.b (i + 1)) (brN k).tt + o.term i (brN k))) = bI o i (k + 1) := by
  funext q; unfold updM
  by_cases e : q = i
  · subst e
    rw [if_pos rfl]
    unfold bI
    rw [if_neg (by omega), if_pos rfl, if_neg (by omega), if_pos rfl, bN'_succ o q _ k hk]
    unfold Ob.bB
    rw [if_pos h]
  · rw [if_neg e]; unfold bI
    by_cases h1 : i < q
    · rw [if_pos h1, if_pos h1]
    · rw [if_neg h1, if_neg e, if_neg h1, if_neg e]
theorem bI_same (o : Ob) (i k : Nat) (hk : k < 16) (h : ¬ (o.allow i (brN k) = true ∧ UU < gi (o.b (i + 1)) (brN k).tt)) : bI o i (k + 1) = bI o i k := by
  funext q; unfold bI
  rw [bN'_succ o i _ k hk]
  unfold Ob.bB
  rw [if_neg h]
end Go.Proofs.YtpdalbckmfadbaaGreat

