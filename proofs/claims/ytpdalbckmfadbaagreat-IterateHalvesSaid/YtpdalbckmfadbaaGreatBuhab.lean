/-
  Bundle of the texts L M N V O W X Y Za Zb Ba Bb. Conditions: none.
-/
import Derived.Test.YtpdalbckmfadbaaGreatBuhaa
import Derived.Deep.RegionHeld3
import Derived.OwnWalk
import Derived.Laws.ResultCell
import Derived.Deep.DeepCutAuto
import Derived.Laws.BytesArg
import Derived.Deep.MidRow
namespace Go.Proofs.YtpdalbckmfadbaaGreat
open Go.RowKit
set_option linter.unusedVariables false
/-- An encoder in block o: three bits and its parity row. -/
structure EncSt (base : Nat) (w : World) (o : Nat) (a b c : Bool) (A : Option Addr) (n cp : Nat) (ps : List Bool) : Prop where
  obj : Ownv 176 w base (some ⟨o, 0, none⟩) 4 4 [.int .i64 (ib a), .int .i64 (ib b), .int .i64 (ib c), .slice A n cp]
  row : Own .u8 5 w base A n cp (ps.map ib)
  ne : A ≠ none → blk A ≠ o
  le : base ≤ w.heap.size
theorem EncSt.facts {base : Nat} {w : World} {o : Nat} {a b c : Bool} {A : Option Addr} {n cp : Nat} {ps : List Bool} (h : EncSt base w o a b c A n cp ps) :
    w.cell? ⟨o, 0, none⟩ = some (.int .i64 (ib a)) ∧ w.cell? ⟨o, 1, none⟩ = some (.int .i64 (ib b)) ∧ w.cell? ⟨o, 2, none⟩ = some (.int .i64 (ib c)) ∧ w.cell? ⟨o, 3, none⟩ = some (.slice A n cp) ∧
    w.frozen? ⟨o, 0, none⟩ = false ∧ w.frozen? ⟨o, 1, none⟩ = false ∧ w.frozen? ⟨o, 2, none⟩ = false ∧ w.frozen? ⟨o, 3, none⟩ = false :=
  ⟨h.obj.rd.at_ 0 _ rfl, h.obj.rd.at_ 1 _ rfl, h.obj.rd.at_ 2 _ rfl, h.obj.rd.at_ 3 _ rfl, Ownv.frozen h.obj (by omega) 0, Ownv.frozen h.obj (by omega) 1, Ownv.frozen h.obj (by omega) 2, Ownv.frozen h.obj (by omega) 3⟩
theorem EncSt.below {base : Nat} {w w' : World} {o : Nat} {a b c : Bool} {A : Option Addr} {n cp : Nat} {ps : List Bool} (h : EncSt base w o a b c A n cp ps) (hB : Below w.heap.size w w') : EncSt base w' o a b c A n cp ps :=
  ⟨h.obj.below hB, Ownv.below h.row hB, h.ne, Nat.le_trans h.le hB.size⟩
theorem EncSt.alloc {base : Nat} {w : World} {o : Nat} {a b c : Bool} {A : Option Addr} {n cp : Nat} {ps : List Bool} (h : EncSt base w o a b c A n cp ps) (x : Obj) : EncSt base (w.alloc x) o a b c A n cp ps :=
  ⟨h.obj.alloc x, Ownv.alloc h.row x, h.ne, by have := h.le; simp; omega⟩
theorem EncSt.put {base : Nat} {w : World} {o : Nat} {a b c : Bool} {A : Option Addr} {n cp : Nat} {ps : List Bool} (h : EncSt base w o a b c A n cp ps) (a' b' c' : Bool) :
    EncSt base (((w.setCell ⟨o, 0, none⟩ (.int .i64 (ib a'))).setCell ⟨o, 1, none⟩ (.int .i64 (ib b'))).setCell ⟨o, 2, none⟩ (.int .i64 (ib c'))) o a' b' c' A n cp ps ∧
      Below base w (((w.setCell ⟨o, 0, none⟩ (.int .i64 (ib a'))).setCell ⟨o, 1, none⟩ (.int .i64 (ib b'))).setCell ⟨o, 2, none⟩ (.int .i64 (ib c'))) := by
  have hb : base ≤ o := (Ownv.blk_ge h.obj (by omega)).1
  have s0 := Ownv.set_ h.obj (j := 0) (by omega) (.int .i64 (ib a'))
  have s1 := Ownv.set_ s0.1 (j := 1) (by omega) (.int .i64 (ib b'))
  have s2 := Ownv.set_ s1.1 (j := 2) (by omega) (.int .i64 (ib c'))
  have hn : A ≠ none → some (blk A) ≠ some o := fun hA he => h.ne hA (Option.some.inj he)
  have r0 := Ownv.grown h.row s0.2 hn
  have r1 := Ownv.grown r0 s1.2 hn
  have r2 := Ownv.grown r1 s2.2 hn
  have g : ∀ {W W' : World}, Below base w W → W.grownBy W' (some o) → Below base w W' := fun hB hg => hB.grown hg (Nat.le_trans h.le hB.size) (fun k hk => by injection hk with hk; omega)
  have g2 := g (g (g (Below.refl base w) s0.2) s1.2) s2.2
  exact ⟨⟨s2.1, r2, h.ne, Nat.le_trans h.le g2.size⟩, g2⟩
theorem Ownv.blk_of {e : TypeId} {w : World} {base : Nat} {A : Option Addr} {n c : Nat} {vs : List Value} (h : Ownv e w base A n c vs) (hA : A ≠ none) : base ≤ blk A ∧ blk A < w.heap.size := by
  obtain ⟨hl, h2⟩ := h.cases
  rcases h2 with ⟨rfl, rfl, rfl⟩ | ⟨g, cur, rfl, hb, hh, hnc, hcm, hs, ht⟩
  · exact absurd rfl hA
  · exact ⟨hb, (Array.getElem?_eq_some_iff.1 hh).1⟩
end Go.Proofs.YtpdalbckmfadbaaGreat

namespace Go.Proofs.YtpdalbckmfadbaaGreat
open Go.RowKit
set_option linter.unusedVariables false
def ValidB (xs : List Int) : Bool := xs.all (fun x => decide (x ≤ 1))
theorem validB_f {xs : List Int} {j : Nat} (hj : j < xs.length) (h : 1 < gi xs j) : ValidB xs = false := by
  rw [Bool.eq_false_iff]; intro hh
  have := all_gi.1 hh j hj
  simp at this; omega
theorem validB_t {xs : List Int} (h : ∀ q, q < xs.length → gi xs q ≤ 1) : ValidB xs = true := all_gi.2 fun j hj => by simpa using h j hj
theorem inv1_any (b : Int) (w : World) : Calls Tryz.prog 114 #[.int .u8 b] w fun e w' => e = .returned (.bool (decide (1 < b))) ∧ w = w' := by
  go_enter Tryz.func114, Tryz.ntmps114
  go_wp2
  go_ret
  exact ⟨rfl, rfl⟩
def IdxInv (n : Nat) (xs : List Int) (i : Value) : Prop := ∃ j : Nat, j ≤ n ∧ i = .int .i64 j ∧ ∀ q, q < j → gi xs q ≤ 1
def IdxPost (xs : List Int) (w : World) (e : Ending) (w' : World) : Prop := ∃ r : Int, e = .returned (.int .i64 r) ∧ (0 ≤ r ↔ ValidB xs = false) ∧ w = w'
set_option maxHeartbeats 400000 in
theorem idx_any (A : Option Addr) (n c : Nat) (xs : List Int) (w : World) (h : Rd .u8 w A n c xs) :
    Calls Tryz.prog 82 #[.slice A n c, .func (.func 114) #[] #[]] w (IdxPost xs w) := by
  have hbd := h.bd.1
  go_enter Tryz.func82, Tryz.ntmps82
  go_wp2
  go_loop [8] (fun i => IdxInv n xs i) (fun i => n - (intOf i).toNat)
  case atStart => exact ⟨0, by omega, rfl, by intro q hq; omega⟩
  case round =>
    obtain ⟨j, hj, rfl, hv⟩ := hrel
    by_cases hlt : j < n
    · have hc := Rd.cell h hlt
      have hix := fun W => Rdv.ix h el26 hlt .i64 W
      have HV := Lib.hid hv; clear hv
      by_cases h1 : gi xs j ≤ 1
      · have h1' : decide (1 < gi xs j) = false := by simp; omega
        go_wp2_with (go_at_call 114; refine (inv1_any _ _).mono ?_; rintro e w' ⟨rfl, rfl⟩)
        go_round
        case rel => exact ⟨j + 1, by omega, by go_num, fun q hq => lt_succ_cases HV.out h1 q hq⟩
        case measure => simp [intOf]; omega
      · have h1' : decide (1 < gi xs j) = true := by simp; omega
        have hf := Lib.hid (validB_f (by rw [h.len]; exact hlt) (by omega : 1 < gi xs j))
        go_wp2_with (go_at_call 114; refine (inv1_any _ _).mono ?_; rintro e w' ⟨rfl, rfl⟩)
        go_ret
        exact ⟨_, rfl, by rw [hf.out]; simp, rfl⟩
    · have hf := Lib.hid (validB_t (xs := xs) (by rw [h.len]; intro q hq; exact hv q (by omega)))
      go_wp2
      go_ret
      exact ⟨_, rfl, by rw [hf.out]; simp, rfl⟩
theorem contains_any (A : Option Addr) (n c : Nat) (xs : List Int) (w : World) (h : Rd .u8 w A n c xs) :
    Calls Tryz.prog 35 #[.slice A n c, .func (.func 114) #[] #[]] w fun e w' => e = .returned (.bool (!ValidB xs)) ∧ w = w' := by
  go_enter Tryz.func35, Tryz.ntmps35
  go_wp2_with (go_at_call 82; refine (idx_any A n c xs w h).mono ?_; rintro e w' ⟨r, rfl, hr, rfl⟩)
  go_ret
  refine ⟨ret_bool ?_, rfl⟩
  cases hv : ValidB xs <;> simp_all
end Go.Proofs.YtpdalbckmfadbaaGreat

namespace Go.Proofs.YtpdalbckmfadbaaGreat
open Go.RowKit
set_option linter.unusedVariables false
abbrev St3 := Bool × Bool × Bool
def stp (s : St3) (x : Bool) : St3 := (x ^^ s.2.1 ^^ s.2.2, s.1, s.2.1)
def par (s : St3) (x : Bool) : Bool := x ^^ s.2.1 ^^ s.2.2 ^^ s.1 ^^ s.2.2
def parL (s : St3) : List Bool → List Bool
  | [] => []
  | x :: l => par s x :: parL (stp s x) l
def s0 : St3 := (false, false, false)
theorem parL_len (l : List Bool) : ∀ s, (parL s l).length = l.length := by
  induction l with
  | nil => intro s; rfl
  | cons y l ih => intro s; simp [parL, ih]
theorem gi_ib (bs : List Bool) (j : Nat) (h : j < bs.length) : gi (bs.map ib) j = ib bs[j] := by
  rw [gi_eq _ _ (by simpa using h)]; simp
end Go.Proofs.YtpdalbckmfadbaaGreat

namespace Go.Proofs.YtpdalbckmfadbaaGreat
open Go.RowKit
set_option linter.unusedVariables false
def tlU (a b c : Bool) (j : Nat) : Bool := if j = 0 then (b ^^ c) else if j = 1 then (a ^^ b) else a
def tlZ (a b c : Bool) (j : Nat) : Bool := if j = 0 then (a ^^ c) else if j = 1 then b else a
def tu (s : St3) (j : Nat) : Bool := tlU s.1 s.2.1 s.2.2 j
def tz (s : St3) (j : Nat) : Bool := tlZ s.1 s.2.1 s.2.2 j
def fin (bs : List Bool) : St3 := bs.foldl stp s0
def xorL (x y : List Bool) : List Bool := List.zipWith xor x y
/-- the number of ones -/
def wt (l : List Bool) : Nat := l.count true
def w1 (b : Bool) : Nat := if b then 1 else 0
/-- The word of a turbo code over bits. -/
def wordB (x m : List Bool) : List Bool :=
  x ++ [tu (fin x) 0, tz (fin x) 1, tu (fin m) 0, tz (fin m) 1] ++ (parL s0 x ++ [tz (fin x) 0, tu (fin x) 2, tz (fin m) 0, tu (fin m) 2]) ++ (parL s0 m ++ [tu (fin x) 1, tz (fin x) 2, tu (fin m) 1, tz (fin m) 2])
/-- distance -/
def dst (x y : List Bool) : Nat := wt (xorL x y)
end Go.Proofs.YtpdalbckmfadbaaGreat

namespace Go.Proofs.YtpdalbckmfadbaaGreat
open Go.RowKit
set_option linter.unusedVariables false
theorem results_cct {fn : Func} {p q u : Tmp} {ty ty' : TypeId} (h : fn.results = #[.cell p ty, .cell q ty', .tmp u]) (tmps : Array Value) (P : Program) (w : World) :
    (results fn tmps).run P w =
      ((asAddr (tmps.getD p undef)).run P w).andThen fun a w₁ => ((loadVar ty a).run P w₁).andThen fun v w₂ => ((asAddr (tmps.getD q undef)).run P w₂).andThen fun b w₃ => ((loadVar ty' b).run P w₃).andThen fun v' w₄ => .ok (.tuple #[v, v', tmps.getD u undef]) w₄ := by
  simp only [results, h]
  simp [Sem.run_bind, Result.andThen]
theorem results_c {fn : Func} {p : Tmp} {ty : TypeId} (h : fn.results = #[.cell p ty]) (tmps : Array Value) (P : Program) (w : World) :
    (results fn tmps).run P w = ((asAddr (tmps.getD p undef)).run P w).andThen fun a w₁ => (loadVar ty a).run P w₁ := by
  simp only [results, h]
  simp [Sem.run_bind]
/-- A row of the call's own whole. -/
theorem Ownv.row {e : TypeId} {w : World} {base b n : Nat} {vs : List Value} (h : Ownv e w base (some ⟨b, 0, none⟩) n n vs) : w.heap[b]? = some (.cells vs.toArray e (0, 0)) := by
  obtain ⟨_, h2⟩ := Ownv.cases h
  rcases h2 with ⟨h3, _⟩ | ⟨g, cur, h3, hb, hh, hnc, hcm, hs, ht⟩
  · cases h3
  · cases h3
    have : cur.toList = vs := by
      rw [← List.take_of_length_le (l := cur.toList) (i := n) (by simp [hs])]; exact ht
    rw [hh, show cur = vs.toArray from by rw [← this]]
theorem Own.set3 {k : IntKind} {e : TypeId} {w : World} {base b : Nat} {vs : List Int} (h : Own k e w base (some ⟨b, 0, none⟩) 3 3 vs) (x y z : Int) :
    Own k e (((w.setCell ⟨b, 0, none⟩ (.int k x)).setCell ⟨b, 1, none⟩ (.int k y)).setCell ⟨b, 2, none⟩ (.int k z)) base (some ⟨b, 0, none⟩) 3 3 [x, y, z] ∧ w.grownBy (((w.setCell ⟨b, 0, none⟩ (.int k x)).setCell ⟨b, 1, none⟩ (.int k y)).setCell ⟨b, 2, none⟩ (.int k z)) (some b) := by
  have h0 := Own.set_ h (j := 0) (by omega) x
  have h1 := Own.set_ h0.1 (j := 1) (by omega) y
  have h2 := Own.set_ h1.1 (j := 2) (by omega) z
  simp only [adr_some, Nat.zero_add] at h0 h1 h2
  have hl := (Own.rd h).len
  refine ⟨?_, (h0.2.trans h1.2).trans h2.2⟩
  have e1 : ((vs.set 0 x).set 1 y).set 2 z = [x, y, z] := by
    match vs, hl with
    | [p, q, r], _ => rfl
  rw [← e1]; exact h2.1
end Go.Proofs.YtpdalbckmfadbaaGreat

namespace Go.Proofs.YtpdalbckmfadbaaGreat
open Go.RowKit
set_option linter.unusedVariables false
end Go.Proofs.YtpdalbckmfadbaaGreat

namespace Go.Proofs.YtpdalbckmfadbaaGreat
open Go.RowKit
set_option linter.unusedVariables false
def stS (s : St3) : Int := stI s.1 s.2.1 s.2.2
set_option maxRecDepth 100000 in
theorem rstep_any (s : St3) (x : Bool) (w : World) : Calls Tryz.prog 142 #[.int .i64 (stS s), .int .i64 (ib x)] w fun e w' => e = .returned (.tuple #[.int .i64 (stS (stp s x)), .int .i64 (ib (par s x))]) ∧ w = w' := by
  obtain ⟨a, b, c⟩ := s
  cases a <;> cases b <;> cases c <;> cases x <;> (
    simp only [stS, stp, par, stI, ib, if_true, if_false, Bool.false_eq_true]
    go_enter Tryz.func142, Tryz.ntmps142
    go_wp2
    go_ret2
    exact ⟨rfl, rfl⟩)
end Go.Proofs.YtpdalbckmfadbaaGreat

namespace Go.Proofs.YtpdalbckmfadbaaGreat
open Go.RowKit
set_option linter.unusedVariables false
section
variable {P : Program} {w w' w0 : World} {A B : Option Addr} {n c m d g : Nat} {vs us : List Value} {e : TypeId}
theorem bal (h : Below w0.heap.size w0 w) (o : Obj) : Below w0.heap.size w0 (w.alloc o) := h.alloc h.size o
theorem heap_new' {N : Nat} {o : Obj} (hN : N = w.heap.size) : (w.alloc o).heap[N]? = some o := by subst hN; exact heap_alloc_new _ _
theorem heap_old' {N : Nat} {o x : Obj} (h : w.heap[N]? = some x) : (w.alloc o).heap[N]? = some x := by
  rw [heap_alloc_old (h := (Array.getElem?_eq_some_iff.1 h).1)]; exact h
theorem Ownv.of_heap {cs : Array Value} {base : Nat} (h : w.heap[g]? = some (.cells cs e (0, 0))) (hb : base ≤ g) (hm : cs.size ≤ maxLen) : Ownv e w base (some ⟨g, 0, none⟩) cs.size cs.size cs.toList :=
  ⟨by simp, .inr ⟨g, cs.size, cs, rfl, hb, h, Nat.le_refl _, hm, by simp, by rw [Nat.mul_one]; exact List.take_of_length_le (by simp)⟩⟩
/-- append onto a row made since w0; all that is older stays -/
theorem wp_appB {o : Oper} {a : Act} {K : Act → World → Prop} {Q : Exit → Act → World → Prop} (s x : Operand) (t : TypeId)
    (ho : o.op = .call { callee := .builtin .append, args := #[s, x], argTypes := #[t, t] }) {z : Value} {bytes : Nat} (hE : El P t e z bytes) (hs : a.eval s = .slice A n c) (hx : a.eval x = .slice B m d)
    (hB : Below w0.heap.size w0 w) (hO : Ownv e w w0.heap.size A n c vs) (hR : Rdv w B m d us) (h1 : ∀ u ∈ us, u.oneCell' = true) (hby : (n + m) * bytes ≤ 140737488355328) (hm : n + m ≤ maxLen)
    (h : ∀ A' c' w', Ownv e w' w0.heap.size A' (n + m) c' (vs ++ us) → Below w0.heap.size w0 w' → (∀ g, g < w.heap.size → some g ≠ (Value.slice A n c).ownBlock → w'.heap[g]? = w.heap[g]?) → K (a.put o.dst (.slice A' (n + m) c')) w') : o.wp P a w K Q := by
  refine wp_app s x t ho hE hs hx hO hR h1 hby hm hB.size ?_
  intro A' c' w' h2 h3
  exact h A' c' w' h2 (hB.grown h3 hB.size (fun k hk => Ownv.ob' hO hk)) h3.block
end
theorem heap_lt {w : World} {g : Nat} {x : Obj} (h : w.heap[g]? = some x) : g < w.heap.size := (Array.getElem?_eq_some_iff.1 h).1
end Go.Proofs.YtpdalbckmfadbaaGreat

namespace Go.Proofs.YtpdalbckmfadbaaGreat
open Go.RowKit
set_option linter.unusedVariables false
theorem conv_rd {w : World} {A : Option Addr} {n c : Nat} {xs : List Int} (h : Rd .u8 w A n c xs) : (convert 22 9 (.slice A n c)).run Tryz.prog w = .ok (.string (strOfNums xs)) w := by
  have hu : Tryz.prog.underlying 9 = some .string := by kernel_rfl
  have h5 : Tryz.prog.underlying 5 = some (.int .u8) := by kernel_rfl
  cases A with
  | none =>
    have := Rdv.nil h rfl
    have := Rdv.le h
    obtain rfl : n = 0 := by omega
    obtain rfl : xs = [] := List.eq_nil_of_length_eq_zero h.len
    exact run_convert_bytes_nil w 22 5 el26.u h5 0 c 9 hu
  | some a =>
    by_cases hn : n = 0
    · subst hn
      obtain rfl : xs = [] := List.eq_nil_of_length_eq_zero h.len
      rw [run_convert_bytes_string w 22 9 5 _ 0 c el26.u h5 hu, run_bytesToString w a 0 c [] (by simpa using run_loadCells_list (P := Tryz.prog) w a [] (fun j v hj => by cases hj))]
      rfl
    · obtain ⟨b, o, hA, _⟩ := Rdv.ptr h (by have := Rdv.le h; omega)
      cases hA
      exact run_convert_bytes_arg w 22 5 el26.u h5 b o n c xs h.len (fun i hi => Rd.cell h hi) 9 hu
theorem strOf_inj {xs ys : List Int} (hx : ∀ x ∈ xs, 0 ≤ x ∧ x < 256) (hy : ∀ x ∈ ys, 0 ≤ x ∧ x < 256) (h1 : xs.map (fun n => UInt8.ofNat n.toNat) = ys.map (fun n => UInt8.ofNat n.toNat)) : xs = ys := by
  have hl : xs.length = ys.length := by simpa using congrArg List.length h1
  apply List.ext_getElem hl
  intro i hi hj
  have h2 : (xs.map (fun n => UInt8.ofNat n.toNat))[i]'(by simpa using hi) = (ys.map (fun n => UInt8.ofNat n.toNat))[i]'(by simpa using hj) := by simp only [h1]
  simp only [List.getElem_map] at h2
  have h3 := congrArg UInt8.toNat h2
  have a := hx _ (List.getElem_mem hi)
  have b := hy _ (List.getElem_mem hj)
  simp only [UInt8.toNat_ofNat'] at h3
  rw [Nat.mod_eq_of_lt (by omega), Nat.mod_eq_of_lt (by omega)] at h3
  omega
theorem strEq {xs ys : List Int} (hx : ∀ x ∈ xs, 0 ≤ x ∧ x < 256) (hy : ∀ x ∈ ys, 0 ≤ x ∧ x < 256) : ((strOfNums xs).toList == (strOfNums ys).toList) = decide (xs = ys) := by
  rw [ByteArray.toList_eq, ByteArray.toList_eq, strOfNums_data, strOfNums_data]
  by_cases h : xs = ys
  · subst h; simp
  · have h9 : ¬ (xs.map fun n => UInt8.ofNat n.toNat) = (ys.map fun n => UInt8.ofNat n.toNat) := fun e => h (strOf_inj hx hy e)
    simp only [h, decide_false]
    exact beq_eq_false_iff_ne.2 h9
end Go.Proofs.YtpdalbckmfadbaaGreat

namespace Go.Proofs.YtpdalbckmfadbaaGreat
open Go.RowKit
end Go.Proofs.YtpdalbckmfadbaaGreat

namespace Go.Proofs.YtpdalbckmfadbaaGreat
open Go.RowKit
set_option linter.unusedVariables false
structure Br where
  fr : Nat
  bt : Nat
  pr : Nat
  tt : Nat
deriving DecidableEq
def UU : Int := -1125899906842624
theorem UU_eq : UU = -1125899906842624 := rfl
def brT : List Br := [⟨0, 0, 0, 0⟩, ⟨0, 1, 1, 4⟩, ⟨1, 0, 0, 4⟩, ⟨1, 1, 1, 0⟩, ⟨2, 0, 1, 5⟩, ⟨2, 1, 0, 1⟩, ⟨3, 0, 1, 1⟩, ⟨3, 1, 0, 5⟩, ⟨4, 0, 1, 2⟩, ⟨4, 1, 0, 6⟩, ⟨5, 0, 1, 6⟩, ⟨5, 1, 0, 2⟩, ⟨6, 0, 0, 7⟩, ⟨6, 1, 1, 3⟩, ⟨7, 0, 0, 3⟩, ⟨7, 1, 1, 7⟩]
/-- an observation -/
structure Ob where
  s : List Int
  p : List Int
  a : List Int
def Ob.k (o : Ob) : Nat := o.a.length
def Ob.ok (o : Ob) : Prop := 1 ≤ o.a.length ∧ o.a.length ≤ 6144 ∧ o.s.length = o.a.length + 3 ∧ o.p.length = o.a.length + 3 ∧ (∀ v ∈ o.s, -127 ≤ v ∧ v ≤ 127) ∧ (∀ v ∈ o.p, -127 ≤ v ∧ v ≤ 127) ∧ (∀ v ∈ o.a, -127 ≤ v ∧ v ≤ 127)
def Ob.x (o : Ob) (i : Nat) : Int := if i < o.k then gi o.s i + gi o.a i else gi o.s i
def Ob.term (o : Ob) (i : Nat) (b : Br) : Int := o.x i * (1 - 2 * (b.bt : Int)) + gi o.p i * (1 - 2 * (b.pr : Int))
def tailBit (s : Nat) : Nat := (s / 2 + s) % 2
def Ob.allow (o : Ob) (i : Nat) (b : Br) : Bool := decide (i < o.k) || decide (b.bt = tailBit b.fr)
/-- one branch of a step forward -/
def Ob.fB (o : Ob) (i : Nat) (m nx : List Int) (b : Br) : List Int := if o.allow i b = true ∧ UU < gi m b.fr then nx.set b.tt (max (gi nx b.tt) (gi m b.fr + o.term i b)) else nx
def Ob.bB (o : Ob) (i : Nat) (m nx : List Int) (b : Br) : List Int := if o.allow i b = true ∧ UU < gi m b.tt then nx.set b.fr (max (gi nx b.fr) (gi m b.tt + o.term i b)) else nx
def noneL : List Int := List.replicate 8 UU
def none0 : List Int := 0 :: List.replicate 7 UU
def Ob.fwd (o : Ob) (i : Nat) (m : List Int) : List Int := brT.foldl (o.fB i m) noneL
def Ob.bwd (o : Ob) (i : Nat) (m : List Int) : List Int := brT.foldl (o.bB i m) noneL
/-- the metrics ahead of step i -/
def Ob.f (o : Ob) : Nat → List Int
  | 0 => none0
  | i + 1 => o.fwd i (o.f i)
/-- the metrics behind the last d steps have been gone back -/
def Ob.bd (o : Ob) : Nat → List Int
  | 0 => none0
  | d + 1 => o.bwd (o.s.length - 1 - d) (o.bd d)
def Ob.b (o : Ob) (i : Nat) : List Int := o.bd (o.s.length - i)
/-- the greatest value of a bit -/
def Ob.vB (o : Ob) (i bit : Nat) (f b : List Int) (best : Int) (x : Br) : Int := if x.bt = bit ∧ UU < gi f x.fr ∧ UU < gi b x.tt then max best (gi f x.fr + o.term i x + gi b x.tt) else best
def Ob.val (o : Ob) (i bit : Nat) (f b : List Int) : Int := brT.foldl (o.vB i bit f b) UU
def Ob.tot (o : Ob) (i : Nat) : Int := (o.val i 0 (o.f i) (o.b (i + 1)) - o.val i 1 (o.f i) (o.b (i + 1))).tdiv 2
def ext (v : Int) : Int := min (max ((3 * v).tdiv 4) (-127)) 127
/-- what a list of metrics is: eight values, each unreachable or small -/
structure Met (B : Int) (m : List Int) : Prop where
  len : m.length = 8
  bd : ∀ j, j < 8 → gi m j = UU ∨ (-B ≤ gi m j ∧ gi m j ≤ B)
theorem br_bd : ∀ b ∈ brT, b.fr < 8 ∧ b.bt < 2 ∧ b.pr < 2 ∧ b.tt < 8 := by decide
theorem mul_sgn (x : Int) (t : Nat) (ht : t < 2) : x * (1 - 2 * (t : Int)) = x ∨ x * (1 - 2 * (t : Int)) = -x := by
  rcases (by omega : t = 0 ∨ t = 1) with rfl | rfl
  · left; simp
  · right; simp
theorem Ob.x_bd {o : Ob} (h : o.ok) (i : Nat) (hi : i < o.s.length) : -254 ≤ o.x i ∧ o.x i ≤ 254 := by
  obtain ⟨h1, h2, h3, h4, h5, h6, h7⟩ := h
  unfold Ob.x
  have := h5 _ (gi_mem o.s i hi)
  split
  · rename_i hk
    have := h7 _ (gi_mem o.a i hk)
    omega
  · omega
theorem Ob.p_bd {o : Ob} (h : o.ok) (i : Nat) (hi : i < o.s.length) : -127 ≤ gi o.p i ∧ gi o.p i ≤ 127 := by
  obtain ⟨h1, h2, h3, h4, h5, h6, h7⟩ := h
  exact h6 _ (gi_mem o.p i (by omega))
theorem Ob.term_bd {o : Ob} (h : o.ok) (i : Nat) (hi : i < o.s.length) (b : Br) (hb : b ∈ brT) : -381 ≤ o.term i b ∧ o.term i b ≤ 381 := by
  have h1 := o.x_bd h i hi
  have h2 := o.p_bd h i hi
  obtain ⟨-, b1, b2, -⟩ := br_bd b hb
  unfold Ob.term
  rcases mul_sgn (o.x i) b.bt b1 with e1 | e1 <;> rcases mul_sgn (gi o.p i) b.pr b2 with e2 | e2 <;> rw [e1, e2] <;> omega
theorem gi_noneL (j : Nat) (hj : j < 8) : gi noneL j = UU := by
  rw [gi_eq _ _ (by simpa [noneL] using hj)]
  exact List.getElem_replicate ..
theorem noneL_met (B : Int) : Met B noneL := ⟨List.length_replicate .., fun j hj => .inl (gi_noneL j hj)⟩
theorem gi_none0 (j : Nat) (hj : j < 8) : gi none0 j = if j = 0 then 0 else UU := by
  rcases (by omega : j = 0 ∨ j = 1 ∨ j = 2 ∨ j = 3 ∨ j = 4 ∨ j = 5 ∨ j = 6 ∨ j = 7) with rfl | rfl | rfl | rfl | rfl | rfl | rfl | rfl <;> rfl
theorem none0_met (B : Int) (hB : 0 ≤ B) : Met B none0 := ⟨rfl, fun j hj => by
  rw [gi_none0 j hj]
  split
  · exact .inr (by omega)
  · exact .inl rfl⟩
theorem gi_set' (xs : List Int) (k : Nat) (v : Int) (j : Nat) (h : j < xs.length) : gi (xs.set k v) j = if k = j then v else gi xs j := by
  rw [gi_eq _ _ (by rw [List.length_set]; exact h), List.getElem_set, gi_eq _ _ h]
theorem met_set {B : Int} {m : List Int} (h : Met B m) (j : Nat) (v : Int) (hv : -B ≤ v ∧ v ≤ B) : Met B (m.set j v) := ⟨by rw [List.length_set]; exact h.len, fun q hq => by
  rw [gi_set' _ _ _ _ (by rw [h.len]; exact hq)]
  split
  · exact .inr hv
  · exact h.bd q hq⟩
theorem max_bd {a b B : Int} (ha : a = UU ∨ (-B ≤ a ∧ a ≤ B)) (hb : -B ≤ b ∧ b ≤ B) (hB : B ≤ 100000000) : -B ≤ max a b ∧ max a b ≤ B := by
  rw [UU_eq] at ha
  omega
theorem fold_met {o : Ob} (h : o.ok) (i : Nat) (hi : i < o.s.length) {B : Int} (hB : B ≤ 50000000) {m : List Int} (hm : Met B m) (g : Ob → Nat → List Int → List Int → Br → List Int)
    (hg : ∀ (nx : List Int) (b : Br), b ∈ brT → Met (B + 381) nx → Met (B + 381) (g o i m nx b)) : ∀ (l : List Br) (nx : List Int), (∀ b ∈ l, b ∈ brT) → Met (B + 381) nx → Met (B + 381) (l.foldl (g o i m) nx)
  | [], nx, _, hn => hn
  | b :: l, nx, hl, hn => fold_met h i hi hB hm g hg l _ (fun c hc => hl c (List.mem_cons_of_mem _ hc)) (hg nx b (hl b List.mem_cons_self) hn)
theorem fB_met {o : Ob} (h : o.ok) (i : Nat) (hi : i < o.s.length) {B : Int} (hB : B ≤ 50000000) (h0 : 0 ≤ B) {m : List Int} (hm : Met B m) (nx : List Int) (b : Br) (hb : b ∈ brT) (hn : Met (B + 381) nx) : Met (B + 381) (o.fB i m nx b) := by
  unfold Ob.fB
  split
  · rename_i hc
    obtain ⟨b1, -, -, b4⟩ := br_bd b hb
    have ht := o.term_bd h i hi b hb
    have h1 := hm.bd _ b1
    have h2 := hn.bd _ b4
    have hc2 := hc.2
    refine met_set hn _ _ (max_bd h2 ?_ (by omega))
    rcases h1 with h1 | h1
    · omega
    · omega
  · exact hn
theorem bB_met {o : Ob} (h : o.ok) (i : Nat) (hi : i < o.s.length) {B : Int} (hB : B ≤ 50000000) (h0 : 0 ≤ B) {m : List Int} (hm : Met B m) (nx : List Int) (b : Br) (hb : b ∈ brT) (hn : Met (B + 381) nx) : Met (B + 381) (o.bB i m nx b) := by
  unfold Ob.bB
  split
  · rename_i hc
    obtain ⟨b1, -, -, b4⟩ := br_bd b hb
    have ht := o.term_bd h i hi b hb
    have h1 := hm.bd _ b4
    have h2 := hn.bd _ b1
    have hc2 := hc.2
    refine met_set hn _ _ (max_bd h2 ?_ (by omega))
    rcases h1 with h1 | h1
    · omega
    · omega
  · exact hn
theorem fwd_met {o : Ob} (h : o.ok) (i : Nat) (hi : i < o.s.length) {B : Int} (hB : B ≤ 50000000) (h0 : 0 ≤ B) {m : List Int} (hm : Met B m) (l : List Br) (hl : ∀ b ∈ l, b ∈ brT) : Met (B + 381) (l.foldl (o.fB i m) noneL) :=
  fold_met h i hi hB hm (fun o i m nx b => o.fB i m nx b) (fun nx b hb hn => fB_met h i hi hB h0 hm nx b hb hn) l noneL hl (noneL_met _)
theorem bwd_met {o : Ob} (h : o.ok) (i : Nat) (hi : i < o.s.length) {B : Int} (hB : B ≤ 50000000) (h0 : 0 ≤ B) {m : List Int} (hm : Met B m) (l : List Br) (hl : ∀ b ∈ l, b ∈ brT) : Met (B + 381) (l.foldl (o.bB i m) noneL) :=
  fold_met h i hi hB hm (fun o i m nx b => o.bB i m nx b) (fun nx b hb hn => bB_met h i hi hB h0 hm nx b hb hn) l noneL hl (noneL_met _)
theorem Met.mono {B C : Int} {m : List Int} (h : Met B m) (hC : B ≤ C) : Met C m := ⟨h.len, fun j hj => (h.bd j hj).imp id (fun h => by omega)⟩
theorem f_met {o : Ob} (h : o.ok) : ∀ i, i ≤ o.s.length → Met (381 * (i : Int)) (o.f i)
  | 0, _ => none0_met _ (by simp)
  | i + 1, hi => by
    have h1 := f_met h i (by omega)
    have h3 := h.2.1
    have h4 := h.2.2.1
    have := fwd_met h i (by omega) (B := 381 * (i : Int)) (by omega) (by omega) h1 brT (fun _ hb => hb)
    refine Met.mono this ?_
    push_cast
    omega
theorem bd_met {o : Ob} (h : o.ok) : ∀ d, d ≤ o.s.length → Met (381 * (d : Int)) (o.bd d)
  | 0, _ => none0_met _ (by simp)
  | d + 1, hd => by
    have h1 := bd_met h d (by omega)
    have h3 := h.2.1
    have h4 := h.2.2.1
    have := bwd_met h (o.s.length - 1 - d) (by omega) (B := 381 * (d : Int)) (by omega) (by omega) h1 brT (fun _ hb => hb)
    refine Met.mono this ?_
    push_cast
    omega
/-- eight values, written out -/
theorem Met.eight {B : Int} {m : List Int} (h : Met B m) : ∃ a b c d e f g i, m = [a, b, c, d, e, f, g, i] := by
  have hl := h.len
  match m, hl with
  | [a, b, c, d, e, f, g, i], _ => exact ⟨a, b, c, d, e, f, g, i, rfl⟩
end Go.Proofs.YtpdalbckmfadbaaGreat

namespace Go.Proofs.YtpdalbckmfadbaaGreat
open Go.RowKit
set_option linter.unusedVariables false
def ints8 (m : List Int) : List Value := m.map (Value.int .i64)
theorem heap_lt' {w : World} {b : Nat} {o : Obj} (h : w.heap[b]? = some o) : b < w.heap.size := (Array.getElem?_eq_some_iff.1 h).1
/-- block b holds just these cells -/
def Blk (w : World) (b : Nat) (t : TypeId) (cs : List Value) : Prop := w.heap[b]? = some (.cells cs.toArray t (0, 0))
section
variable {w w' : World} {b : Nat} {t : TypeId} {cs : List Value}
theorem Blk.lt (h : Blk w b t cs) : b < w.heap.size := heap_lt' h
theorem Blk.cell (h : Blk w b t cs) {j : Nat} {v : Value} (hj : cs[j]? = some v) : w.cell? ⟨b, j, none⟩ = some v := by rw [cell_of_row w b j _ _ _ h]; simpa using hj
theorem Blk.icell {m : List Int} (h : Blk w b t (ints8 m)) {j : Nat} (hj : j < m.length) : w.cell? ⟨b, j, none⟩ = some (.int .i64 (gi m j)) := h.cell (by simp [ints8, gi, List.getD, hj])
theorem Blk.frozen (h : Blk w b t cs) (j : Nat) : w.frozen? ⟨b, j, none⟩ = false := frozen_of_row w b j _ _ h
theorem Blk.below (h : Blk w b t cs) (hB : Below w.heap.size w w') : Blk w' b t cs := (hB.block b h.lt).trans h
theorem Blk.alloc (h : Blk w b t cs) (o : Obj) : Blk (w.alloc o) b t cs := (heap_alloc_old (h := h.lt) ..).trans h
theorem Blk.drew (h : Blk w b t cs) : Blk w.drew b t cs := h
theorem Blk.drewN (h : Blk w b t cs) (q : Nat) : Blk (w.drewN q) b t cs := h
theorem Blk.new (w : World) (cs : List Value) (t : TypeId) {N : Nat} (hN : N = w.heap.size) : Blk (w.alloc (.cells cs.toArray t)) N t cs := by subst hN; exact heap_alloc_new _ _
theorem Blk.set (h : Blk w b t cs) (j : Nat) (v : Value) : Blk (w.setCell ⟨b, j, none⟩ v) b t (cs.set j v) := by
  have h' : w.heap[b]? = some (.cells cs.toArray t (0, 0)) := h
  obtain ⟨hlt, hk⟩ := Array.getElem?_eq_some_iff.1 h'
  show (w.heap.modify b _)[b]? = _
  rw [Array.getElem?_modify, if_pos rfl, h']
  simp
theorem Blk.other (h : Blk w b t cs) {g : Nat} (hg : g ≠ b) (j : Nat) (v : Value) : Blk (w.setCell ⟨g, j, none⟩ v) b t cs := by
  show (w.heap.modify g _)[b]? = _
  rw [Array.getElem?_modify, if_neg hg]; exact h
theorem grownBy_set (w : World) (b j : Nat) (v : Value) : w.grownBy (w.setCell ⟨b, j, none⟩ v) (some b) :=
  ⟨rfl, rfl, rfl, by show w.heap.size ≤ (w.heap.modify b _).size; rw [Array.size_modify]; exact Nat.le_refl _, fun k _ hk => by
    show (w.heap.modify b _)[k]? = _
    rw [Array.getElem?_modify, if_neg (fun e => hk (by rw [e]))]⟩
end
theorem info66 : (Tryz.prog.info? 198).map (·.size) = some 8 := by kernel_rfl
theorem res66 {W : World} {b : Nat} {m : List Int} (h : Blk W b 198 (ints8 m)) (hl : m.length = 8) : (loadVar 198 ⟨b, 0, none⟩).run Tryz.prog W = .ok (.agg (ints8 m).toArray) W :=
  run_loadVar_row (P := Tryz.prog) W b 198 198 _ (0, 0) _ h Tryz.underlying198 rfl (by rw [info66]; simp [ints8, hl])
theorem Blk.setAllAux {b : Nat} {t : TypeId} (suf : List Value) : ∀ (cs old pre : List Value) (W : World), Blk W b t (pre ++ old ++ suf) → old.length = cs.length → Blk (W.setCells b pre.length cs) b t (pre ++ cs ++ suf)
  | [], old, pre, W, h, hl => by
    obtain rfl := List.eq_nil_of_length_eq_zero hl
    exact h
  | c :: cs, o :: old, pre, W, h, hl => by
    have h1 := h.set pre.length c
    have e : (pre ++ o :: old ++ suf).set pre.length c = (pre ++ [c]) ++ old ++ suf := by simp
    rw [e] at h1
    have h2 := Blk.setAllAux suf cs old (pre ++ [c]) _ h1 (by simpa using hl)
    rw [List.length_append, List.append_assoc pre [c] cs] at h2
    exact h2
theorem Blk.setAll {W : World} {b : Nat} {t : TypeId} {cs old : List Value} (h : Blk W b t old) (hl : old.length = cs.length) : Blk (W.setCells b 0 cs) b t cs := by
  have := Blk.setAllAux [] cs old [] W (by simpa using h) hl
  simpa using this
theorem grownBy_setCells (b : Nat) : ∀ (cs : List Value) (o : Nat) (W : World), W.grownBy (W.setCells b o cs) (some b)
  | [], _, W => World.grownBy.refl _ _
  | c :: cs, o, W => by
    have h1 := grownBy_set W b o c
    have h2 := grownBy_setCells b cs (o + 1) (W.setCell ⟨b, o, none⟩ c)
    exact ⟨h2.os.trans h1.os, h2.tape.trans h1.tape, h2.output.trans h1.output, Nat.le_trans h1.size h2.size, fun k hk hne => (h2.block k (Nat.lt_of_lt_of_le hk h1.size) hne).trans (h1.block k hk hne)⟩
section
variable {ops : Array Oper} {rest : List Oper} {op : Oper} {a : Act} {w : World} {Q : Exit → Act → World → Prop} {K : Act → World → Prop} {b : Nat} {t : TypeId} {cs old : List Value}
/-- a whole array or struct is read -/
theorem wp_ldrow (ty : TypeId) (x : Operand) (ho : op.op = .load ty x) (hx : a.eval x = .pointer (some ⟨b, 0, none⟩)) (hB : Blk w b t cs) (d : TypeDesc) (hu : Tryz.prog.underlying ty = some d) (hd : d.isRow = true) (hi : (Tryz.prog.info? ty).map (·.size) = some cs.length)
    (h : K (a.put op.dst (.agg cs.toArray)) w) : op.wp Tryz.prog a w K Q :=
  wp_load_mid ty x ho b 0 hx cs d (fun j v hj => by rw [Nat.zero_add]; exact hB.cell hj) hu hd hi h
theorem ldrow (hgd : op.guard = none) (ty : TypeId) (x : Operand) (ho : op.op = .load ty x) (hx : a.eval x = .pointer (some ⟨b, 0, none⟩)) (hB : Blk w b t cs) (d : TypeDesc) (hu : Tryz.prog.underlying ty = some d) (hd : d.isRow = true) (hi : (Tryz.prog.info? ty).map (·.size) = some cs.length)
    (h : wpList Tryz.prog ops Q rest (a.put op.dst (.agg cs.toArray)) w) : wpList Tryz.prog ops Q (op :: rest) a w :=
  wpList_plain hgd fun _ hK => wp_ldrow ty x ho hx hB d hu hd hi (hK _ _ h)
/-- a whole array or struct is stored over a block -/
theorem wp_strow (ty : TypeId) (x y : Operand) (ho : op.op = .store ty x y) (hx : a.eval x = .pointer (some ⟨b, 0, none⟩)) (hy : a.eval y = .agg cs.toArray) (hB : Blk w b t old) (hl : old.length = cs.length) (hi : (Tryz.prog.info? ty).map (·.size) = some cs.length) (h1 : ∀ v ∈ cs, v.oneCell' = true)
    (h : ∀ W', Blk W' b t cs → w.grownBy W' (some b) → K (a.put op.dst undef) W') : op.wp Tryz.prog a w K Q :=
  wp_store_mid ty x y ho b 0 cs.toArray hx hy (fun j hj => ⟨by
    rw [Nat.zero_add, hB.cell (List.getElem?_eq_getElem (by rw [hl]; simpa using hj))]; rfl, by rw [Nat.zero_add]; exact hB.frozen j⟩) (by simpa using hi) (all_oneCell_toArray h1) (h _ (by simpa using hB.setAll hl) (by simpa using grownBy_setCells b cs 0 w))
theorem strow (hgd : op.guard = none) (ty : TypeId) (x y : Operand) (ho : op.op = .store ty x y) (hx : a.eval x = .pointer (some ⟨b, 0, none⟩)) (hy : a.eval y = .agg cs.toArray) (hB : Blk w b t old) (hl : old.length = cs.length) (hi : (Tryz.prog.info? ty).map (·.size) = some cs.length) (h1 : ∀ v ∈ cs, v.oneCell' = true)
    (h : ∀ W', Blk W' b t cs → w.grownBy W' (some b) → wpList Tryz.prog ops Q rest (a.put op.dst undef) W') : wpList Tryz.prog ops Q (op :: rest) a w :=
  wpList_plain hgd fun _ hK => wp_strow ty x y ho hx hy hB hl hi h1 fun W' h2 h3 => hK _ _ (h W' h2 h3)
end
section
variable {ops : Array Oper} {rest : List Oper} {op : Oper} {a : Act} {w : World} {Q : Exit → Act → World → Prop} {K : Act → World → Prop} {b : Nat} {t : TypeId} {cs old pre suf : List Value}
/-- an array or struct is stored into the midst of a block -/
theorem wp_stmid (ty : TypeId) (x y : Operand) (ho : op.op = .store ty x y) {n : Nat} (hx : a.eval x = .pointer (some ⟨b, n, none⟩)) (hn : n = pre.length) (hy : a.eval y = .agg cs.toArray) (hB : Blk w b t (pre ++ old ++ suf)) (hl : old.length = cs.length) (hi : (Tryz.prog.info? ty).map (·.size) = some cs.length) (h1 : ∀ v ∈ cs, v.oneCell' = true)
    (h : ∀ W', Blk W' b t (pre ++ cs ++ suf) → w.grownBy W' (some b) → K (a.put op.dst undef) W') : op.wp Tryz.prog a w K Q := by
  subst hn
  refine wp_store_mid ty x y ho b pre.length cs.toArray hx hy (fun j hj => ⟨?_, hB.frozen _⟩) (by simpa using hi) (all_oneCell_toArray h1) (h _ (by simpa using Blk.setAllAux suf cs old pre w hB hl) (by simpa using grownBy_setCells b cs pre.length w))
  have hj' : j < old.length := by rw [hl]; simpa using hj
  rw [hB.cell (j := pre.length + j) (v := old[j]) (by rw [List.append_assoc, List.getElem?_append_right (by omega), Nat.add_sub_cancel_left, List.getElem?_append_left hj', List.getElem?_eq_getElem hj'])]
  rfl
theorem stmid (hgd : op.guard = none) (ty : TypeId) (x y : Operand) (ho : op.op = .store ty x y) {n : Nat} (hx : a.eval x = .pointer (some ⟨b, n, none⟩)) (hn : n = pre.length) (hy : a.eval y = .agg cs.toArray) (hB : Blk w b t (pre ++ old ++ suf)) (hl : old.length = cs.length) (hi : (Tryz.prog.info? ty).map (·.size) = some cs.length) (h1 : ∀ v ∈ cs, v.oneCell' = true)
    (h : ∀ W', Blk W' b t (pre ++ cs ++ suf) → w.grownBy W' (some b) → wpList Tryz.prog ops Q rest (a.put op.dst undef) W') : wpList Tryz.prog ops Q (op :: rest) a w :=
  wpList_plain hgd fun _ hK => wp_stmid ty x y ho hx hn hy hB hl hi h1 fun W' h2 h3 => hK _ _ (h W' h2 h3)
end
theorem ints8_one (m : List Int) : ∀ v ∈ ints8 m, v.oneCell' = true := oneCell_ints .i64 m
theorem i66 {m : List Int} (h : m.length = 8) : (Tryz.prog.info? 198).map (·.size) = some (ints8 m).length := by rw [info66]; simp [ints8, h]
def NoneInv (w : World) (i : Value) (wr : World) : Prop := ∃ j : Nat, j ≤ 8 ∧ i = .int .i64 j ∧ Blk wr w.heap.size 198 (ints8 (List.replicate j UU ++ List.replicate (8 - j) 0)) ∧ Below w.heap.size w wr
theorem none_init : ints8 (List.replicate 0 UU ++ List.replicate (8 - 0) 0) = [.int .i64 0, .int .i64 0, .int .i64 0, .int .i64 0, .int .i64 0, .int .i64 0, .int .i64 0, .int .i64 0] := rfl
theorem none_step (j : Nat) (hj : j < 8) : (ints8 (List.replicate j UU ++ List.replicate (8 - j) 0)).set j (.int .i64 UU) = ints8 (List.replicate (j + 1) UU ++ List.replicate (8 - (j + 1)) 0) := by
  rcases (by omega : j = 0 ∨ j = 1 ∨ j = 2 ∨ j = 3 ∨ j = 4 ∨ j = 5 ∨ j = 6 ∨ j = 7) with rfl | rfl | rfl | rfl | rfl | rfl | rfl | rfl <;> rfl
set_option maxRecDepth 100000 in
theorem none_any (w : World) : Calls Tryz.prog 133 #[] w fun e w' => e = .returned (.agg (ints8 none0).toArray) ∧ Below w.heap.size w w' := by
  go_enter Tryz.func133, Tryz.ntmps133
  go_wp2
  go_loopw [2] (fun i wr => NoneInv w i wr) (fun i _ => 8 - (intOf i).toNat)
  case atStart => exact ⟨0, by omega, rfl, by rw [none_init]; exact Blk.new w _ 198 rfl, (Below.refl _ w).alloc (Nat.le_refl _) _⟩
  case round =>
    obtain ⟨j, hj, rfl, hb, hB⟩ := hrel
    by_cases hlt : j < 8
    · have hc := hb.icell (j := j) (by simp; omega)
      have hf := hb.frozen j
      have HS := Lib.hid (hb.set j (.int .i64 UU))
      have HB := Lib.hid hB
      have HST := Lib.hid (none_step j hlt)
      clear hb hB
      go_wp2
      go_roundw
      case rel => exact ⟨j + 1, by omega, by go_num, by rw [← HST.out]; exact HS.out, HB.out.setCell (Nat.le_refl _) _⟩
      case measure => simp [intOf]; omega
    · obtain rfl : j = 8 := by omega
      have hc := hb.icell (j := 0) (by simp)
      have hf := hb.frozen 0
      have hS := hb.set 0 (.int .i64 0)
      have hq : Below w.heap.size w (wr.setCell ⟨w.heap.size, 0, none⟩ (.int .i64 0)) := hB.setCell (Nat.le_refl _) _
      have hS' : Blk (wr.setCell ⟨w.heap.size, 0, none⟩ (.int .i64 0)) w.heap.size 198 (ints8 none0) := hS
      have HQ := Lib.hid hq
      clear hS hb hB hq
      go_wp2_with (first
        | (refine ldrow rfl 198 (.tmp 0) rfl rfl hS' _ Tryz.underlying198 rfl (i66 rfl) ?_)
        | (refine strow rfl 198 (.tmp 0) (.tmp 9) rfl rfl rfl hS' rfl (i66 rfl) (ints8_one _) ?_; intro W' h1 h2; have H1 := Lib.hid h1; have H2 := Lib.hid h2; clear h1 h2 hS'))
      refine bodyPost_ret (v := .agg (ints8 none0).toArray) ?_ rfl ⟨rfl, HQ.out.grown H2.out HQ.out.size (fun k hk => by cases hk; exact Nat.le_refl _)⟩
      rw [results_c rfl]
      have l1 := res66 H1.out rfl
      simp [Act.put, asAddr, l1, Sem.run_pure]
end Go.Proofs.YtpdalbckmfadbaaGreat

