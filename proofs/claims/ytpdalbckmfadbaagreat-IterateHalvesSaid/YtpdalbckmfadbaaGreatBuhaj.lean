/-
  Bundle of the texts Cf Cg Cj Ck Ik Ie Ch. Conditions: none.
-/
import Derived.Test.YtpdalbckmfadbaaGreatBuhai
import Derived.Deep.AppendLies
import Derived.Test.YtpdalbckmfadbaaGreatBuhaa
import Derived.Test.YtpdalbckmfadbaaGreatBuhae
import Derived.Deep.QuietTactic
import Derived.BigQuiet
namespace Go.Proofs.YtpdalbckmfadbaaGreat
open Go.RowKit
set_option linter.unusedVariables false
theorem softB_app (xs ys : List Int) : SoftB (xs ++ ys) = (SoftB xs && SoftB ys) := by simp [SoftB, List.all_append]
set_option maxRecDepth 100000 in
theorem wrong_len (S P A : Option Addr) (cs cp ca : Nat) (o : Ob) (w : World) (h : In3 w o S P A cs cp ca) (hl : ¬ o.lens) :
    Calls Tryz.prog 101 #[.slice S o.s.length cs, .slice P o.p.length cp, .slice A o.a.length ca] w fun e w' => e = .returned (.int .i64 2) ∧ w = w' := by
  have b1 := (Rdv.bd h.s).1
  have b2 := (Rdv.bd h.p).1
  have b3 := (Rdv.bd h.a).1
  unfold Ob.lens at hl
  clear h
  rcases (by omega : o.a.length < 1 ∨ 6144 < o.a.length ∨ (1 ≤ o.a.length ∧ o.a.length ≤ 6144 ∧ o.s.length ≠ o.a.length + 3) ∨ (1 ≤ o.a.length ∧ o.a.length ≤ 6144 ∧ o.s.length = o.a.length + 3 ∧ o.p.length ≠ o.s.length)) with h1 | h1 | ⟨h1, h2, h3⟩ | ⟨h1, h2, h3, h4⟩ <;> clear hl
  case' inr.inr.inl => have e3 := bne_len_t h3; clear h3
  case' inr.inr.inr => have e3 := bne_len_f h3; have e4 : ((o.p.length : Int) != (o.s.length : Int)) = true := bne_t (by omega); clear h3 h4
  all_goals
    go_enter Tryz.func101, Tryz.ntmps101
    go_wp2
    go_ret
    exact ⟨rfl, rfl⟩
def WrPost (o : Ob) (w : World) (e : Ending) (w' : World) : Prop := e = .returned (.int .i64 (if o.soft = true then 0 else 6)) ∧ Below w.heap.size w w'
set_option maxRecDepth 100000 in
set_option maxHeartbeats 1000000 in
theorem wrong_soft (S P A : Option Addr) (cs cp ca : Nat) (o : Ob) (w : World) (h : In3 w o S P A cs cp ca) (hl : o.lens) :
    Calls Tryz.prog 101 #[.slice S o.s.length cs, .slice P o.p.length cp, .slice A o.a.length ca] w (WrPost o w) := by
  obtain ⟨l1, l2, l3, l4⟩ := hl
  have H := Lib.hid h
  have e3 := bne_len_f l3
  have e4 : ((o.p.length : Int) != (o.s.length : Int)) = false := bne_f (by omega)
  have L3 := Lib.hid (show o.s.length = o.a.length + 3 ∧ o.p.length = o.a.length + 3 from ⟨l3, l4⟩)
  have hs : o.s.length ≤ 6147 := by omega
  have hp : o.p.length ≤ 6147 := by omega
  have HSO := Lib.hid (show SoftB (o.s ++ o.p ++ o.a) = o.soft from by rw [softB_app, softB_app, Bool.and_assoc]; rfl)
  clear h l3 l4
  go_enter Tryz.func101, Tryz.ntmps101
  go_wp2_with (first
    | (at_builtin
       refine list_of rfl fun K hK => wp_appB (w0 := w) (vs := []) (.tmp 32) (.tmp 33) 34 rfl el22 rfl rfl (bal (Below.refl _ w) _) ?_ (Rdv.below H.out.s (bal (Below.refl _ w) _)) (oneCell_ints .i64 _) (by omega) (by unfold maxLen; omega) ?_
       · exact Ownv.of_heap (cs := #[]) (heap_new' rfl) (Nat.le_refl _) (by show 0 ≤ maxLen; omega)
       intro A1 c1 w1 h1 h2 _
       rw [Nat.zero_add] at h1 ⊢
       refine hK _ _ ?_
       clear hK K
       have H1 := Lib.hid h1
       have H2 := Lib.hid h2
       clear h1 h2)
    | (at_builtin
       refine list_of rfl fun K hK => wp_appB (w0 := w) (.tmp 34) (.tmp 35) 34 rfl el22 rfl rfl H2.out H1.out (Rdv.below H.out.p H2.out) (oneCell_ints .i64 _) (by omega) (by unfold maxLen; omega) ?_
       intro A2 c2 w2 h3 h4 _
       refine hK _ _ ?_
       clear hK K
       have H3 := Lib.hid h3
       have H4 := Lib.hid h4
       clear h3 h4)
    | (at_builtin
       refine list_of rfl fun K hK => wp_appB (w0 := w) (.tmp 36) (.tmp 37) 34 rfl el22 rfl rfl H4.out H3.out (Rdv.below H.out.a H4.out) (oneCell_ints .i64 _) (by omega) (by unfold maxLen; omega) ?_
       intro A3 c3 w3 h5 h6 _
       refine hK _ _ ?_
       clear hK K
       have H5 := Lib.hid h5
       have H6 := Lib.hid h6
       clear h5 h6))
  obtain ⟨xs, hxs⟩ : ∃ xs, xs = o.s ++ o.p ++ o.a := ⟨_, rfl⟩
  have hO : Own .i64 3 w3 w.heap.size A3 (o.s.length + o.p.length + o.a.length) c3 xs := by rw [hxs]; have := H5.out; simpa [Own] using this
  have hxl : xs.length = o.s.length + o.p.length + o.a.length := by rw [hxs]; simp; omega
  have HX := Lib.hid hxs
  have HO := Lib.hid hO
  have HXL := Lib.hid hxl
  clear hxs hO hxl H5
  have hN : o.s.length + o.p.length + o.a.length ≤ 20000 := by omega
  generalize o.s.length + o.p.length + o.a.length = N at *
  clear hs hp l1 l2
  go_loop [8] (fun i => ∃ j : Nat, j ≤ N ∧ i = .int .i64 j ∧ ∀ q, q < j → (-127 ≤ gi xs q ∧ gi xs q ≤ 127)) (fun i => N - (intOf i).toNat)
  case atStart => exact ⟨0, by omega, rfl, fun q hq => by omega⟩
  case round =>
    obtain ⟨j, hj, rfl, hq⟩ := hrel
    have HQ := Lib.hid hq
    clear hq
    by_cases hlt : j < N
    · have hix := fun W => Rdv.ix HO.out.rd el22 hlt .i64 W
      have hc := Rd.cell HO.out.rd hlt
      by_cases g1 : gi xs j < -127
      · have hbad := Lib.hid (softB_f (xs := xs) (j := j) (by rw [HXL.out]; exact hlt) (by omega))
        go_wp2
        go_ret
        exact ⟨ret_int (by rw [← HSO.out, ← HX.out, hbad.out]; rfl), H6.out⟩
      · by_cases g2 : 127 < gi xs j
        · have hbad := Lib.hid (softB_f (xs := xs) (j := j) (by rw [HXL.out]; exact hlt) (by omega))
          go_wp2
          go_ret
          exact ⟨ret_int (by rw [← HSO.out, ← HX.out, hbad.out]; rfl), H6.out⟩
        · go_wp2
          go_round
          case rel => exact ⟨j + 1, by omega, by go_num, lt_succ_cases HQ.out ⟨by omega, by omega⟩⟩
          case measure => simp [intOf]; omega
    · obtain rfl : j = N := by omega
      have hgood := Lib.hid (softB_t (xs := xs) (fun q hq => HQ.out q (by rw [HXL.out] at hq; exact hq)))
      go_wp2
      go_ret
      exact ⟨ret_int (by rw [← HSO.out, ← HX.out, hgood.out]; rfl), H6.out⟩
/-- the errno of an observation, of the reference -/
theorem wrong_any (S P A : Option Addr) (cs cp ca : Nat) (o : Ob) (w : World) (h : In3 w o S P A cs cp ca) :
    Calls Tryz.prog 101 #[.slice S o.s.length cs, .slice P o.p.length cp, .slice A o.a.length ca] w fun e w' => e = .returned (.int .i64 o.err) ∧ Below w.heap.size w w' := by
  unfold Ob.err
  by_cases hl : o.lens
  · rw [if_pos hl]; exact wrong_soft S P A cs cp ca o w h hl
  · rw [if_neg hl]
    refine (wrong_len S P A cs cp ca o w h hl).mono ?_
    rintro e w' ⟨rfl, rfl⟩
    exact ⟨rfl, Below.refl _ w⟩
end Go.Proofs.YtpdalbckmfadbaaGreat

namespace Go.Proofs.YtpdalbckmfadbaaGreat
open Go.RowKit
set_option linter.unusedVariables false
def Apart (A B : Option Addr) : Prop := A ≠ none → B ≠ none → blk A ≠ blk B
theorem Apart.symm {A B : Option Addr} (h : Apart A B) : Apart B A := fun hb ha he => h ha hb he.symm
/-- one row: its kind, its element, where it lies, its length, its capacity, what it reads as -/
structure RowD where
  k : IntKind
  e : TypeId
  A : Option Addr
  n : Nat
  c : Nat
  xs : List Int
def RowD.val (r : RowD) : Value := .slice r.A r.n r.c
def RowD.own (r : RowD) (W : World) (base : Nat) : Prop := Own r.k r.e W base r.A r.n r.c r.xs
structure TT (base : Nat) (W : World) (r1 r2 r3 : RowD) : Prop where
  o1 : r1.own W base
  o2 : r2.own W base
  o3 : r3.own W base
  a12 : Apart r1.A r2.A
  a13 : Apart r1.A r3.A
  a23 : Apart r2.A r3.A
section
variable {base : Nat} {W W' : World} {r1 r2 r3 : RowD}
theorem TT.rot (h : TT base W r1 r2 r3) : TT base W r2 r3 r1 := ⟨h.o2, h.o3, h.o1, h.a23, h.a12.symm, h.a13.symm⟩
theorem TT.below (h : TT base W r1 r2 r3) (hB : Below W.heap.size W W') : TT base W' r1 r2 r3 := ⟨Ownv.below h.o1 hB, Ownv.below h.o2 hB, Ownv.below h.o3 hB, h.a12, h.a13, h.a23⟩
theorem TT.alloc (h : TT base W r1 r2 r3) (o : Obj) : TT base (W.alloc o) r1 r2 r3 := ⟨Ownv.alloc h.o1 o, Ownv.alloc h.o2 o, Ownv.alloc h.o3 o, h.a12, h.a13, h.a23⟩
/-- a store elsewhere -/
theorem TT.grown (h : TT base W r1 r2 r3) {g : Nat} (hg : W.grownBy W' (some g)) (hlt : g < base) : TT base W' r1 r2 r3 := by
  have q : ∀ (r : RowD), r.own W base → r.A ≠ none → some (blk r.A) ≠ some g := fun r hr hA => by
    have : base ≤ blk r.A := by
      obtain ⟨-, h2⟩ := Ownv.cases hr
      rcases h2 with ⟨h2, -⟩ | ⟨b, cur, h2, h3, -⟩
      · exact absurd h2 hA
      · rw [h2]; exact h3
    simp; omega
  exact ⟨Ownv.grown h.o1 hg (q r1 h.o1), Ownv.grown h.o2 hg (q r2 h.o2), Ownv.grown h.o3 hg (q r3 h.o3), h.a12, h.a13, h.a23⟩
theorem own_lt3 {r : RowD} (h : r.own W base) (hA : r.A ≠ none) : blk r.A < W.heap.size := by
  obtain ⟨-, h2⟩ := Ownv.cases h
  rcases h2 with ⟨h2, -⟩ | ⟨b, cur, h2, h3, h4, -⟩
  · exact absurd h2 hA
  · rw [h2]; exact heap_lt' h4
theorem own_beside {r q : RowD} (hq : q.own W base) (hg : W.grownBy W' r.val.ownBlock) (hap : Apart r.A q.A) : q.own W' base := by
  refine Ownv.grown hq hg (fun hb he => ?_)
  unfold RowD.val at he
  cases hA : r.A with
  | none => rw [hA] at he; simp [Value.ownBlock] at he
  | some ad =>
    rw [hA] at he
    simp [Value.ownBlock] at he
    exact hap (by simp [hA]) hb (by rw [he, hA]; rfl)
theorem apart_next {r q : RowD} {g : Nat} (hq : q.own W base) (hap : Apart r.A q.A) (h : r.A ≠ none ∧ g = blk r.A ∨ g = W.heap.size) : Apart (some ⟨g, 0, none⟩) q.A := by
  intro _ hb he
  have he' : g = blk q.A := he
  rcases h with ⟨hA, h⟩ | h
  · exact hap hA hb (by rw [← h]; exact he')
  · have := own_lt3 hq hb; omega
/-- the first of three rows grows by one -/
theorem wp_appT {P : Program} {gx : Nat} {v : Int} {o : Oper} {a : Act} {K : Act → World → Prop} {Q : Exit → Act → World → Prop} (s x : Operand) (t : TypeId)
    (ho : o.op = .call { callee := .builtin .append, args := #[s, x], argTypes := #[t, t] }) {z : Value} {bytes : Nat} (hE : El P t r1.e z bytes) (hs : a.eval s = r1.val) (hx : a.eval x = .slice (some ⟨gx, 0, none⟩) 1 1)
    (T : TT base W r1 r2 r3) (hX : W.heap[gx]? = some (.cells #[.int r1.k v] r1.e (0, 0))) (hn : (r1.n + 1) * bytes ≤ 140737488355328) (hm : r1.n + 1 ≤ maxLen) (hb : base ≤ W.heap.size)
    (h : ∀ g c' w', TT base w' { r1 with A := some ⟨g, 0, none⟩, n := r1.n + 1, c := c', xs := r1.xs ++ [v] } r2 r3 → W.grownBy w' r1.val.ownBlock → K (a.put o.dst (.slice (some ⟨g, 0, none⟩) (r1.n + 1) c')) w') : o.wp P a W K Q := by
  obtain ⟨i, hi, hz0, hz1, hz2⟩ := info_parts hE.i
  refine wp_append_lies W s x t ho base r1.e i z 1 bytes hE.u hi hz0 hz1 hz2 (by rw [hE.z1]; rfl) (by decide) _ r1.n _ hs (show W.ownsRow base r1.e 1 r1.val r1.n (r1.xs.map (Value.int r1.k)) from T.o1.ow) ⟨gx, 0, none⟩ 1 1 ([v].map (Value.int r1.k)) hx (by simp) ?_ (oneCell_ints r1.k [v]) (by decide) hm hn hb _ rfl ?_
  · have hX' : W.heap[gx]? = some (.cells ([v].map (Value.int r1.k)).toArray r1.e (0, 0)) := by simpa using hX
    have := World.news_of_block hX'
    simpa using this
  · intro g cap w' h2 h3 h4 h5
    have hl : r1.A ≠ none ∧ g = blk r1.A ∨ g = W.heap.size := by
      rcases h4 with h4 | h4
      · left
        unfold RowD.val at h4
        cases hA : r1.A with
        | none => rw [hA] at h4; simp [Value.ownBlock] at h4
        | some ad => rw [hA] at h4; simp [Value.ownBlock] at h4; exact ⟨by simp, by rw [← h4]; rfl⟩
      · exact .inr h4
    refine h g cap w' ⟨?_, own_beside T.o2 h3 T.a12, own_beside T.o3 h3 T.a13, apart_next T.o2 T.a12 hl, apart_next T.o3 T.a13 hl, T.a23⟩ h3
    exact Own.of_eq ⟨h2⟩ rfl (by rw [List.map_append])
theorem own_ge {r : RowD} (h : r.own W base) : ∀ g, r.val.ownBlock = some g → base ≤ g := fun g hg => Ownv.ob' h hg
theorem own_blk {r : RowD} : ∀ g, r.val.ownBlock = some g → r.A ≠ none ∧ blk r.A = g := fun g hg => by
  unfold RowD.val at hg
  cases hA : r.A with
  | none => rw [hA] at hg; simp [Value.ownBlock] at hg
  | some ad => rw [hA] at hg; simp [Value.ownBlock] at hg; exact ⟨by simp, by rw [← hg]; rfl⟩
end
section
variable {w wr w' : World} {bf bg N bA cap base : Nat} {F G : Nat → List Int}
theorem Sw.grownR (h : Sw w bf bg N bA cap wr F G) {row : Option Nat} (hg : wr.grownBy w' row) (hr : ∀ g, row = some g → base ≤ g) (h1 : bf < base) (h2 : bg < base) (h3 : bA < base) (h4 : w.heap.size ≤ base) : Sw w bf bg N bA cap w' F G := by
  have q : ∀ b, b < base → b < wr.heap.size → w'.heap[b]? = wr.heap[b]? := fun b hb hs => hg.block b hs (fun e => by have := hr b e.symm; omega)
  refine ⟨⟨(q bf h1 h.f.blk.lt).trans h.f.blk, h.f.l8⟩, ⟨(q bg h2 h.g.blk.lt).trans h.g.blk, h.g.l8⟩, h.r.grown hg (fun _ e => ?_), h.bl.grown hg h.bl.size (fun k hk => Nat.le_trans h4 (hr k hk))⟩
  have := hr bA e.symm
  omega
theorem Blk.grownR {b : Nat} {t : TypeId} {cs : List Value} (h : Blk wr b t cs) {row : Option Nat} (hg : wr.grownBy w' row) (hr : ∀ g, row = some g → base ≤ g) (hb : b < base) : Blk w' b t cs :=
  (hg.block b h.lt (fun e => by have := hr b e.symm; omega)).trans h
end
end Go.Proofs.YtpdalbckmfadbaaGreat

namespace Go.Proofs.YtpdalbckmfadbaaGreat
open Go.RowKit
set_option linter.unusedVariables false
theorem el100 : El Tryz.prog 49 22 (.slice none 0 0) 24 := ⟨by kernel_rfl, by kernel_rfl, fun _ => by kernel_rfl, rfl⟩
/-- A slice value and what it reads as. -/
structure Sv where
  A : Option Addr
  n : Nat
  c : Nat
  xs : List Int
def Sv.v (s : Sv) : Value := .slice s.A s.n s.c
def tot (L : List Sv) (j : Nat) : Nat := ((L.take j).map (·.n)).sum
end Go.Proofs.YtpdalbckmfadbaaGreat

namespace Go.Proofs.YtpdalbckmfadbaaGreat
open Go.RowKit
set_option linter.unusedVariables false
theorem Rdv.slhm {P : Program} {w : World} {A : Option Addr} {n c : Nat} {vs : List Value} (h : Rdv w A n c vs) {t e : TypeId} {z : Value} {bytes : Nat} (E : El P t e z bytes) (kh km : IntKind) {m : Nat} (hm : m ≤ c) (W : World) :
    (Instr.sliceAt t (.slice A n c) none (some (.int kh (m : Int))) (some (.int km (m : Int)))).run P W = .ok (.slice A m m) W := by
  have e1 : P.underlying t = some (.slice (P.elem t)) := by rw [E.u]; simp [Program.elem, E.u]
  have e2 : P.elem t = e := by simp [Program.elem, E.u]
  rw [run_sliceAt_slice W t _ _ _ _ e1, run_slice_hm W t A n c e1 kh km m m (by omega) (by omega) (by omega), e2, E.s]
  simp only [Result.andThen_ok, Int.toNat_natCast, sliced, Nat.zero_mul, Nat.sub_zero]
  congr 2
  split
  · rfl
  · cases A <;> simp [Addr.add]
theorem Rdv.capn {w : World} {A : Option Addr} {n c : Nat} {vs : List Value} (h : Rdv w A n c vs) : Rdv w A n n vs := by
  have hle := h.le
  exact ⟨h.len, Nat.le_refl _, Nat.le_trans hle h.cm, fun e => by have := h.nil e; omega, fun hn => h.spot (by omega), fun hn => h.lt (by omega), h.at_⟩
end Go.Proofs.YtpdalbckmfadbaaGreat

namespace Go.Proofs.YtpdalbckmfadbaaGreat
open Go.RowKit
set_option linter.unusedVariables false
/-- the values with some indices -/
def pk (xs l : List Int) : List Int := l.map fun i => gi xs i.toNat
theorem pk_len (xs l : List Int) : (pk xs l).length = l.length := by simp [pk]
theorem gi_pk {xs l : List Int} {j : Nat} (h : j < l.length) : gi (pk xs l) j = gi xs (gi l j).toNat := by
  rw [gi_eq _ _ (by rw [pk_len]; exact h), gi_eq l j h]; simp [pk]
end Go.Proofs.YtpdalbckmfadbaaGreat

namespace Go.Proofs.YtpdalbckmfadbaaGreat
open Go.RowKit
set_option linter.unusedVariables false
theorem cell_below {w w' : World} {p : Addr} {v : Value} (hc : w.cell? p = some v) (h : Below w.heap.size w w') : w'.cell? p = some v := (h.cell (World.block_lt_of_cell? w _ hc)).trans hc
theorem size_any (A : Option Addr) (n c : Nat) (w : World) (hn : n ≤ 1000000) : Calls Tryz.prog 86 #[.slice A n c] w fun e w' => e = .returned (.int .i64 ((n : Int) / 3 - 4)) ∧ w = w' := by
  have a1 : (n : Int).tdiv 3 = (n : Int) / 3 := Int.tdiv_eq_ediv_of_nonneg (by omega)
  have a2 : IntKind.i64.wrap ((n : Int) / 3) = (n : Int) / 3 := by rw [IntKind.wrap_i64]; omega
  have a3 : IntKind.i64.wrap ((n : Int) / 3 - 4) = (n : Int) / 3 - 4 := by rw [IntKind.wrap_i64]; omega
  go_enter Tryz.func86, Tryz.ntmps86
  go_wp2
  go_ret
  exact ⟨rfl, rfl⟩
theorem bsoft_any (v : Int) (w : World) : Calls Tryz.prog 87 #[.int .i64 v] w fun e w' => e = .returned (.bool (!decide (-127 ≤ v ∧ v ≤ 127))) ∧ w = w' := by
  by_cases h1 : v < -127
  · rw [show decide (-127 ≤ v ∧ v ≤ 127) = false from by simp; omega]
    go_enter Tryz.func87, Tryz.ntmps87
    go_wp2
    go_ret
    exact ⟨rfl, rfl⟩
  · rw [show decide (-127 ≤ v ∧ v ≤ 127) = !decide (127 < v) from by rw [Bool.eq_iff_iff]; simp; omega, Bool.not_not]
    go_enter Tryz.func87, Tryz.ntmps87
    go_wp2
    go_ret
    exact ⟨rfl, rfl⟩
set_option maxHeartbeats 400000 in
theorem bidx_any (A : Option Addr) (n c : Nat) (xs : List Int) (w : World) (h : Rd .i64 w A n c xs) :
    Calls Tryz.prog 122 #[.slice A n c, .func (.func 87) #[] #[]] w (SPost (SoftB xs) w) := by
  have hbd := h.bd.1
  go_enter Tryz.func122, Tryz.ntmps122
  go_wp2
  go_loop [8] (fun i => SIdx n xs i) (fun i => n - (intOf i).toNat)
  case atStart => exact ⟨0, by omega, rfl, by intro q hq; omega⟩
  case round =>
    obtain ⟨j, hj, rfl, hv⟩ := hrel
    by_cases hlt : j < n
    · have hc := Rd.cell h hlt
      have hix := fun W => Rdv.ix h el22 hlt .i64 W
      have HV := Lib.hid hv; clear hv
      by_cases h1 : -127 ≤ gi xs j ∧ gi xs j ≤ 127
      · have h1' : (!decide (-127 ≤ gi xs j ∧ gi xs j ≤ 127)) = false := by simp; omega
        have H1 := Lib.hid h1; clear h1
        go_wp2_with (go_at_call 87; refine (bsoft_any _ _).mono ?_; rintro e w' ⟨rfl, rfl⟩; rw [h1'])
        go_round
        case rel => exact ⟨j + 1, by omega, by go_num, fun q hq => lt_succ_cases HV.out H1.out q hq⟩
        case measure => simp [intOf]; omega
      · have h1' : (!decide (-127 ≤ gi xs j ∧ gi xs j ≤ 127)) = true := by simp; omega
        have hf := Lib.hid (softB_f (by rw [h.len]; exact hlt) h1)
        clear h1
        go_wp2_with (go_at_call 87; refine (bsoft_any _ _).mono ?_; rintro e w' ⟨rfl, rfl⟩; rw [h1'])
        go_ret
        exact ⟨_, rfl, by rw [hf.out]; simp, rfl⟩
    · have hf := Lib.hid (softB_t (xs := xs) (by rw [h.len]; intro q hq; exact hv q (by omega)))
      clear hv
      go_wp2
      go_ret
      exact ⟨_, rfl, by rw [hf.out]; simp, rfl⟩
theorem bcont_any (A : Option Addr) (n c : Nat) (xs : List Int) (w : World) (h : Rd .i64 w A n c xs) :
    Calls Tryz.prog 80 #[.slice A n c, .func (.func 87) #[] #[]] w fun e w' => e = .returned (.bool (!SoftB xs)) ∧ w = w' := by
  go_enter Tryz.func80, Tryz.ntmps80
  go_wp2_with (go_at_call 122; refine (bidx_any A n c xs w h).mono ?_; rintro e w' ⟨r, rfl, hr, rfl⟩)
  go_ret
  refine ⟨ret_bool ?_, rfl⟩
  cases hv : SoftB xs <;> simp_all
def PkII (w : World) (n : Nat) (Am : Option Addr) (g : Int → Int) (l : List Int) (i : Value) (wr : World) : Prop := ∃ (j : Nat) (cur : List Int), j ≤ n ∧ i = .int .i64 (j : Int) ∧ Own .i64 3 wr w.heap.size Am n n cur ∧ (∀ q, q < j → gi cur q = g (gi l q)) ∧ Below w.heap.size w wr
set_option maxRecDepth 100000 in
set_option maxHeartbeats 1000000 in
theorem pickedA_any (p1 : Value) (g : Int → Int) (A : Option Addr) (n c : Nat) (l : List Int) (w : World) (hl : Rd .i64 w A n c l) (hn : n ≤ 100000)
    (hcl : ∀ j, j < n → ∀ wr, Below w.heap.size w wr → Calls Tryz.prog 138 #[.int .i64 (gi l j), p1] wr fun e w' => e = .returned (.int .i64 (g (gi l j))) ∧ wr = w') :
    Calls Tryz.prog 95 #[.func (.func 138) #[] #[p1], .slice A n c] w fun e w' => ∃ A', e = .returned (.slice A' n n) ∧ Own .i64 3 w' w.heap.size A' n n (l.map g) ∧ Below w.heap.size w w' := by
  have HC := Lib.hid hcl
  have HL := Lib.hid hl
  have hll := hl.len
  clear hcl hl
  go_enter Tryz.func95, Tryz.ntmps95
  go_wp2_with (at_make; refine list_of rfl fun K hK => wp_mk (n := n) _ _ 34 rfl el22 rfl rfl (by omega) (by unfold maxLen; omega) ?_
               intro Am w3 hO3 hB3 hA
               have HO3 := Lib.hid hO3
               have HB3 := Lib.hid hB3
               clear hO3 hB3 hA
               refine hK _ _ ?_
               clear hK K)
  go_loopw [13] (fun i wr => PkII w n Am g l i wr) (fun i _ => n - (intOf i).toNat)
  case atStart => exact ⟨0, List.replicate n 0, Nat.zero_le _, rfl, by have := HO3.out; unfold Own; simpa using this, fun q hq => by omega, HB3.out⟩
  case round =>
    obtain ⟨j, cur, hj, rfl, hO, hsame, hB⟩ := hrel
    have HB := Lib.hid hB
    have HS := Lib.hid hsame
    by_cases hlt : j < n
    · have hrl := Rdv.below HL.out hB
      have cl := Rd.cell hrl hlt
      have il := fun W => Rdv.ix hrl el22 hlt .i64 W
      have hcu := Rd.cell (Own.rd hO) hlt
      have hfu := Ownv.frozen hO (by omega) j
      have hiu := fun W => Rdv.ix (Own.rd hO) el22 hlt .i64 W
      have hcall := Lib.hid (HC.out j hlt wr hB)
      obtain ⟨x, hx⟩ : ∃ x, gi l j = x := ⟨_, rfl⟩
      rw [hx] at cl hcall
      have HXE := Lib.hid hx
      obtain ⟨u, hu⟩ : ∃ u, g x = u := ⟨_, rfl⟩
      rw [hu] at hcall
      have HUE := Lib.hid hu
      have HST := Lib.hid (Own.set_ hO hlt u)
      have hbA := (Ownv.blk_ge hO (by omega)).1
      have HB2 := Lib.hid (hB.grown (Own.set_ hO hlt u).2 hB.size (fun k e => by cases e; exact hbA))
      have hcl := Rd.len (Own.rd hO)
      clear hO hB hsame hx hu
      go_wp2_with fail
      refine hcall.out.mono ?_
      rintro e w4 ⟨rfl, rfl⟩
      go_wp2
      go_roundw
      case rel => exact ⟨j + 1, cur.set j u, by omega, by go_num, HST.out.1, lt_succ_cases (fun q hq => by rw [gi_set' _ _ _ _ (by omega), if_neg (by omega)]; exact HS.out q hq) (by rw [gi_set' _ _ _ _ (by omega), if_pos rfl, HXE.out, HUE.out]), HB2.out⟩
      case measure => simp [intOf]; omega
    · obtain rfl : j = n := by omega
      have hle := Rd.len (Own.rd hO)
      have HLE := Lib.hid (show cur = l.map g from ext_gi (by rw [List.length_map]; omega) fun q hq => by
        rw [hsame q (by omega), gi_eq (l.map g) q (by rw [List.length_map]; omega), List.getElem_map, gi_eq l q (by omega)])
      have HO9 := Lib.hid hO
      clear hO hsame hle hB
      go_wp2
      go_ret
      exact ⟨Am, rfl, by rw [← HLE.out]; exact HO9.out, HB.out⟩
set_option maxRecDepth 100000 in
set_option maxHeartbeats 1000000 in
theorem pickedI_any (p1 : Value) (g : Int → Int) (A : Option Addr) (n c : Nat) (l : List Int) (w : World) (hl : Rd .i64 w A n c l) (hn : n ≤ 100000)
    (hcl : ∀ j, j < n → ∀ wr, Below w.heap.size w wr → Calls Tryz.prog 94 #[.int .i64 (gi l j), p1] wr fun e w' => e = .returned (.int .i64 (g (gi l j))) ∧ wr = w') :
    Calls Tryz.prog 95 #[.func (.func 94) #[] #[p1], .slice A n c] w fun e w' => ∃ A', e = .returned (.slice A' n n) ∧ Own .i64 3 w' w.heap.size A' n n (l.map g) ∧ Below w.heap.size w w' := by
  have HC := Lib.hid hcl
  have HL := Lib.hid hl
  have hll := hl.len
  clear hcl hl
  go_enter Tryz.func95, Tryz.ntmps95
  go_wp2_with (at_make; refine list_of rfl fun K hK => wp_mk (n := n) _ _ 34 rfl el22 rfl rfl (by omega) (by unfold maxLen; omega) ?_
               intro Am w3 hO3 hB3 hA
               have HO3 := Lib.hid hO3
               have HB3 := Lib.hid hB3
               clear hO3 hB3 hA
               refine hK _ _ ?_
               clear hK K)
  go_loopw [13] (fun i wr => PkII w n Am g l i wr) (fun i _ => n - (intOf i).toNat)
  case atStart => exact ⟨0, List.replicate n 0, Nat.zero_le _, rfl, by have := HO3.out; unfold Own; simpa using this, fun q hq => by omega, HB3.out⟩
  case round =>
    obtain ⟨j, cur, hj, rfl, hO, hsame, hB⟩ := hrel
    have HB := Lib.hid hB
    have HS := Lib.hid hsame
    by_cases hlt : j < n
    · have hrl := Rdv.below HL.out hB
      have cl := Rd.cell hrl hlt
      have il := fun W => Rdv.ix hrl el22 hlt .i64 W
      have hcu := Rd.cell (Own.rd hO) hlt
      have hfu := Ownv.frozen hO (by omega) j
      have hiu := fun W => Rdv.ix (Own.rd hO) el22 hlt .i64 W
      have hcall := Lib.hid (HC.out j hlt wr hB)
      obtain ⟨x, hx⟩ : ∃ x, gi l j = x := ⟨_, rfl⟩
      rw [hx] at cl hcall
      have HXE := Lib.hid hx
      obtain ⟨u, hu⟩ : ∃ u, g x = u := ⟨_, rfl⟩
      rw [hu] at hcall
      have HUE := Lib.hid hu
      have HST := Lib.hid (Own.set_ hO hlt u)
      have hbA := (Ownv.blk_ge hO (by omega)).1
      have HB2 := Lib.hid (hB.grown (Own.set_ hO hlt u).2 hB.size (fun k e => by cases e; exact hbA))
      have hcl := Rd.len (Own.rd hO)
      clear hO hB hsame hx hu
      go_wp2_with fail
      refine hcall.out.mono ?_
      rintro e w4 ⟨rfl, rfl⟩
      go_wp2
      go_roundw
      case rel => exact ⟨j + 1, cur.set j u, by omega, by go_num, HST.out.1, lt_succ_cases (fun q hq => by rw [gi_set' _ _ _ _ (by omega), if_neg (by omega)]; exact HS.out q hq) (by rw [gi_set' _ _ _ _ (by omega), if_pos rfl, HXE.out, HUE.out]), HB2.out⟩
      case measure => simp [intOf]; omega
    · obtain rfl : j = n := by omega
      have hle := Rd.len (Own.rd hO)
      have HLE := Lib.hid (show cur = l.map g from ext_gi (by rw [List.length_map]; omega) fun q hq => by
        rw [hsame q (by omega), gi_eq (l.map g) q (by rw [List.length_map]; omega), List.getElem_map, gi_eq l q (by omega)])
      have HO9 := Lib.hid hO
      clear hO hsame hle hB
      go_wp2
      go_ret
      exact ⟨Am, rfl, by rw [← HLE.out]; exact HO9.out, HB.out⟩
def PkBI (w : World) (n : Nat) (Am : Option Addr) (g : Int → Int) (l : List Int) (i : Value) (wr : World) : Prop := ∃ (j : Nat) (cur : List Int), j ≤ n ∧ i = .int .i64 (j : Int) ∧ Own .u8 5 wr w.heap.size Am n n cur ∧ (∀ q, q < j → gi cur q = g (gi l q)) ∧ Below w.heap.size w wr
set_option maxRecDepth 100000 in
set_option maxHeartbeats 1000000 in
theorem pickedB_any (p1 : Value) (g : Int → Int) (A : Option Addr) (n c : Nat) (l : List Int) (w : World) (hl : Rd .i64 w A n c l) (hn : n ≤ 100000)
    (hcl : ∀ j, j < n → ∀ wr, Below w.heap.size w wr → Calls Tryz.prog 93 #[.int .i64 (gi l j), p1] wr fun e w' => e = .returned (.int .u8 (g (gi l j))) ∧ wr = w') :
    Calls Tryz.prog 96 #[.func (.func 93) #[] #[p1], .slice A n c] w fun e w' => ∃ A', e = .returned (.slice A' n n) ∧ Own .u8 5 w' w.heap.size A' n n (l.map g) ∧ Below w.heap.size w w' := by
  have HC := Lib.hid hcl
  have HL := Lib.hid hl
  have hll := hl.len
  clear hcl hl
  go_enter Tryz.func96, Tryz.ntmps96
  go_wp2_with (at_make; refine list_of rfl fun K hK => wp_mk (n := n) _ _ 22 rfl el26 rfl rfl (by omega) (by unfold maxLen; omega) ?_
               intro Am w3 hO3 hB3 hA
               have HO3 := Lib.hid hO3
               have HB3 := Lib.hid hB3
               clear hO3 hB3 hA
               refine hK _ _ ?_
               clear hK K)
  go_loopw [13] (fun i wr => PkBI w n Am g l i wr) (fun i _ => n - (intOf i).toNat)
  case atStart => exact ⟨0, List.replicate n 0, Nat.zero_le _, rfl, by have := HO3.out; unfold Own; simpa using this, fun q hq => by omega, HB3.out⟩
  case round =>
    obtain ⟨j, cur, hj, rfl, hO, hsame, hB⟩ := hrel
    have HB := Lib.hid hB
    have HS := Lib.hid hsame
    by_cases hlt : j < n
    · have hrl := Rdv.below HL.out hB
      have cl := Rd.cell hrl hlt
      have il := fun W => Rdv.ix hrl el22 hlt .i64 W
      have hcu := Rd.cell (Own.rd hO) hlt
      have hfu := Ownv.frozen hO (by omega) j
      have hiu := fun W => Rdv.ix (Own.rd hO) el26 hlt .i64 W
      have hcall := Lib.hid (HC.out j hlt wr hB)
      obtain ⟨x, hx⟩ : ∃ x, gi l j = x := ⟨_, rfl⟩
      rw [hx] at cl hcall
      have HXE := Lib.hid hx
      obtain ⟨u, hu⟩ : ∃ u, g x = u := ⟨_, rfl⟩
      rw [hu] at hcall
      have HUE := Lib.hid hu
      have HST := Lib.hid (Own.set_ hO hlt u)
      have hbA := (Ownv.blk_ge hO (by omega)).1
      have HB2 := Lib.hid (hB.grown (Own.set_ hO hlt u).2 hB.size (fun k e => by cases e; exact hbA))
      have hcl := Rd.len (Own.rd hO)
      clear hO hB hsame hx hu
      go_wp2_with fail
      refine hcall.out.mono ?_
      rintro e w4 ⟨rfl, rfl⟩
      go_wp2
      go_roundw
      case rel => exact ⟨j + 1, cur.set j u, by omega, by go_num, HST.out.1, lt_succ_cases (fun q hq => by rw [gi_set' _ _ _ _ (by omega), if_neg (by omega)]; exact HS.out q hq) (by rw [gi_set' _ _ _ _ (by omega), if_pos rfl, HXE.out, HUE.out]), HB2.out⟩
      case measure => simp [intOf]; omega
    · obtain rfl : j = n := by omega
      have hle := Rd.len (Own.rd hO)
      have HLE := Lib.hid (show cur = l.map g from ext_gi (by rw [List.length_map]; omega) fun q hq => by
        rw [hsame q (by omega), gi_eq (l.map g) q (by rw [List.length_map]; omega), List.getElem_map, gi_eq l q (by omega)])
      have HO9 := Lib.hid hO
      clear hO hsame hle hB
      go_wp2
      go_ret
      exact ⟨Am, rfl, by rw [← HLE.out]; exact HO9.out, HB.out⟩
theorem elV : El Tryz.prog 95 3 (.int .i64 0) 8 := ⟨by kernel_rfl, by kernel_rfl, fun _ => by kernel_rfl, rfl⟩
theorem at1_any (B : Nat) (V : Option Addr) (n c : Nat) (vs : List Int) (i : Int) (w : World) (h : Rd .i64 w V n c vs) (hb : w.cell? ⟨B, 0, none⟩ = some (.slice V n c)) (hi : 0 ≤ i ∧ i < n) :
    Calls Tryz.prog 138 #[.int .i64 i, .pointer (some ⟨B, 0, none⟩)] w fun e w' => e = .returned (.int .i64 (gi vs i.toNat)) ∧ w = w' := by
  obtain ⟨j, rfl⟩ : ∃ j : Nat, i = (j : Int) := ⟨i.toNat, by omega⟩
  have hj : j < n := by omega
  have hc := Rd.cell h hj
  have hix := fun W => Rdv.ix h elV hj .i64 W
  rw [Int.toNat_natCast]
  clear hi
  go_enter Tryz.func138, Tryz.ntmps138
  go_wp2
  go_ret
  exact ⟨rfl, rfl⟩
set_option maxRecDepth 100000 in
theorem at_any (V L : Option Addr) (n c m d : Nat) (vs l : List Int) (w : World) (h : Rd .i64 w V n c vs) (hl : Rd .i64 w L m d l) (hm : m ≤ 100000) (hi : ∀ j, j < m → 0 ≤ gi l j ∧ gi l j < (n : Int)) :
    Calls Tryz.prog 92 #[.slice V n c, .slice L m d] w fun e w' => ∃ A', e = .returned (.slice A' m m) ∧ Own .i64 3 w' w.heap.size A' m m (pk vs l) ∧ Below w.heap.size w w' := by
  have hsl := fun W => Rdv.slhm hl el22 .i64 .i64 (Rdv.le hl) W
  have HB0 := Lib.hid (bal (Below.refl _ w) (.cells #[.slice V n c] 95))
  have HK0 : Hid ((w.alloc (.cells #[.slice V n c] 95)).cell? ⟨w.heap.size, 0, none⟩ = some (.slice V n c)) := Lib.hid ((Blk.new w [.slice V n c] 95 rfl).cell rfl)
  have H1 := Lib.hid (h.alloc (.cells #[.slice V n c] 95))
  have HL1 := Lib.hid ((Rdv.capn hl).alloc (.cells #[.slice V n c] 95))
  have HI := Lib.hid hi
  clear hi h hl
  go_enter Tryz.func92, Tryz.ntmps92
  go_wp2_with fail
  refine (pickedA_any (.pointer (some ⟨w.heap.size, 0, none⟩)) (fun i => gi vs i.toNat) L m m l _ HL1.out hm (fun j hj wr hB => at1_any w.heap.size V n c vs _ wr (Rdv.below H1.out hB) (cell_below HK0.out hB) (HI.out j hj))).mono ?_
  rintro e w1 ⟨A', rfl, hO, hB⟩
  have HO := Lib.hid (Ownv.mono hO (show w.heap.size ≤ _ from HB0.out.size))
  have HB := Lib.hid (HB0.out.trans (hB.mono HB0.out.size))
  clear hO hB
  go_wp2
  go_ret
  exact ⟨A', rfl, HO.out, HB.out⟩
end Go.Proofs.YtpdalbckmfadbaaGreat

namespace Go.Proofs.YtpdalbckmfadbaaGreat
open Go.RowKit
set_option linter.unusedVariables false
section
variable {P : Program} {ops : Array Oper} {Q : Exit → Act → World → Prop} {md : Region.Mode} {S : World → Prop} {p : Nat}
/-- every listed operation's forerunners are listed -/
def ClosedR (md : Region.Mode) (ops : Array Oper) (listed : Array Bool) : Prop := ∀ j oj, ops[j]? = some oj → listed.getD j true = true → ∀ e ∈ oj.after, Region.binds md e = true → listed.getD e.on true = true
def closedB (md : Region.Mode) (ops : Array Oper) (listed : Array Bool) : Bool := (List.range ops.size).all fun j => match ops[j]? with
  | some oj => !listed.getD j true || oj.after.all fun e => !Region.binds md e || listed.getD e.on true
  | none => true
theorem closedB_spec {listed : Array Bool} (h : closedB md ops listed = true) : ClosedR md ops listed := by
  intro j oj hj hl e he hb
  unfold closedB at h
  rw [List.all_eq_true] at h
  have h1 := h j (by simpa using (Array.getElem?_eq_some_iff.1 hj).1)
  simp only [hj, hl, Bool.not_true, Bool.false_or] at h1
  obtain ⟨q, hq, rfl⟩ := Array.mem_iff_getElem.1 he
  have h2 := (Array.all_eq_true.1 h1) q hq
  simpa [hb] using h2
theorem getD_both_true {listed : Array Bool} {i : Nat} (h : listed.getD i false = true) : listed.getD i true = true := by
  by_cases hi : i < listed.size
  · simpa [Array.getD, hi] using h
  · simp [Array.getD, hi]
theorem closed_set {listed : Array Bool} (h : ClosedR md ops listed) {i : Nat} (hi : i ∈ Region.ready md ops listed) : ClosedR md ops (listed.setIfInBounds i true) := by
  intro j oj hj hl e he hb
  have up : ∀ q, listed.getD q true = true → (listed.setIfInBounds i true).getD q true = true := fun q hq => by
    by_cases e : i = q
    · subst e
      by_cases hs : i < listed.size
      · simp [Array.getD, hs]
      · simp [Array.getD, hs]
    · rw [getD_set_ne true e]; exact hq
  by_cases hji : i = j
  · subst hji
    obtain ⟨_, o', ho', hall⟩ := mem_ready.1 hi
    have : oj = o' := Option.some.inj (hj.symm.trans ho')
    subst this
    exact up _ (getD_both_true (hall e he hb))
  · rw [getD_set_ne true hji] at hl
    exact up _ (h j oj hj hl e he hb)
/-- a path of forerunners -/
def pathB (md : Region.Mode) (ops : Array Oper) (i : Nat) : Nat → List Nat → Bool
  | q, [] => Region.waitsFor md ops q i
  | q, x :: xs => Region.waitsFor md ops q x && pathB md ops i x xs
theorem path_listed {i : Nat} {listed : Array Bool} (hc : ClosedR md ops listed) : ∀ (xs : List Nat) (q : Nat), pathB md ops i q xs = true → (∃ oq, ops[q]? = some oq) → listed.getD q true = true → listed.getD i true = true
  | [], q, h, _, hq => by
    obtain ⟨oj, hoj, e, he, hb, hon⟩ := Region.waitsFor_spec h
    rw [← hon]; exact hc q oj hoj hq e he hb
  | x :: xs, q, h, _, hq => by
    simp only [pathB, Bool.and_eq_true] at h
    obtain ⟨oj, hoj, e, he, hb, hon⟩ := Region.waitsFor_spec h.1
    have hx : listed.getD x true = true := by rw [← hon]; exact hc q oj hoj hq e he hb
    cases xs with
    | nil =>
      obtain ⟨ox, hox, -⟩ := Region.waitsFor_spec h.2
      exact path_listed hc [] x h.2 ⟨ox, hox⟩ hx
    | cons y ys =>
      have h3 := h.2
      simp only [pathB, Bool.and_eq_true] at h3
      obtain ⟨ox, hox, -⟩ := Region.waitsFor_spec h3.1
      exact path_listed hc (y :: ys) x h.2 ⟨ox, hox⟩ hx
theorem not_ready_path {i : Nat} {listed : Array Bool} {xs : List Nat} (hc : ClosedR md ops listed) (hp : pathB md ops i p xs = true) (hun : listed.getD i true = false) : p ∉ Region.ready md ops listed := by
  intro hr
  obtain ⟨_, oj, hoj, hall⟩ := mem_ready.1 hr
  have key : listed.getD i true = true := by
    cases xs with
    | nil =>
      obtain ⟨oj', hoj', e, he, hb, hon⟩ := Region.waitsFor_spec hp
      have : oj = oj' := Option.some.inj (hoj.symm.trans hoj')
      subst this
      rw [← hon]; exact getD_both_true (hall e he hb)
    | cons x xs =>
      simp only [pathB, Bool.and_eq_true] at hp
      obtain ⟨oj', hoj', e, he, hb, hon⟩ := Region.waitsFor_spec hp.1
      have : oj = oj' := Option.some.inj (hoj.symm.trans hoj')
      subst this
      have hx : listed.getD x true = true := by rw [← hon]; exact getD_both_true (hall e he hb)
      have hex : ∃ ox, ops[x]? = some ox := by
        cases xs with
        | nil =>
          obtain ⟨ox, hox, -⟩ := Region.waitsFor_spec hp.2
          exact ⟨ox, hox⟩
        | cons y ys =>
          have h3 := hp.2
          simp only [pathB, Bool.and_eq_true] at h3
          obtain ⟨ox, hox, -⟩ := Region.waitsFor_spec h3.1
          exact ⟨ox, hox⟩
      exact path_listed hc xs x hp.2 hex hx
  rw [key] at hun
  cases hun
theorem wpAnyP_firstT {i : Nat} {oi : Oper} {v : Value} {xs : List Nat} (hi : ops[i]? = some oi) (hsel : ∀ (j : Nat) (o : Oper) cs b, ops[j]? = some o → o.op ≠ .select cs b)
    (hQ : ∀ c a w, Q (.panic c) (a.put oi.dst v) w → Q (.panic c) a w) (hw : pathB md ops i p xs = true) (hip : p ≠ i) :
    ∀ (fuel : Nat) (listed : Array Bool) (a : Act) (w : World), ClosedR md ops listed →
      (∀ j oj, ops[j]? = some oj → j ≠ i → listed.getD j true = false → (∀ e ∈ oj.after, Region.binds md e = true → e.on ≠ i) → oi.apart ops oj = true) →
      i ∈ Region.ready md ops listed → YieldsIf P ops S oi v a → listed.getD p true = false → S w →
      wpAnyP P md ops Q S p fuel (listed.setIfInBounds i true) (a.put oi.dst v) w → wpAnyP P md ops Q S p (fuel + 1) listed a w := by
  intro fuel
  induction fuel with
  | zero =>
    intro listed a w hc _ hr hy hp hS H
    refine ⟨fun h => (by rw [h] at hr; cases hr), fun j hj => ?_⟩
    by_cases hji : j = i
    · subst hji; exact hy.wpOp hi hS ⟨fun _ => hS, H⟩
    · have := ready_mono hj hji
      rw [H.1] at this
      cases this
  | succ fuel ih =>
    intro listed a w hc hfree hr hy hp hS H
    refine ⟨fun h => (by rw [h] at hr; cases hr), fun j hj => ?_⟩
    by_cases hji : j = i
    · subst hji; exact hy.wpOp hi hS ⟨fun _ => hS, H⟩
    · have hun := (mem_ready.1 hr).1
      have h1 := H.2 j (ready_mono hj hji)
      obtain ⟨hjun, oj, hoj, hall⟩ := mem_ready.1 hj
      have hnot : ∀ e ∈ oj.after, Region.binds md e = true → e.on ≠ i := fun e he hb heq => by
        have h9 := hall e he hb
        rw [heq, getD_both hun] at h9
        cases h9
      have h2 := wpOp_putIf hoj (hfree j oj hoj hji hjun hnot) (fun cs b => hsel i oi cs b hi) (fun cs b => hsel j oj cs b hoj) hQ hy h1
      have hfree' : ∀ k ok, ops[k]? = some ok → k ≠ i → (listed.setIfInBounds j true).getD k true = false →
          (∀ e ∈ ok.after, Region.binds md e = true → e.on ≠ i) → oi.apart ops ok = true := fun k ok hk hki hun' hno => hfree k ok hk hki (getD_unset hun') hno
      refine wpOp_mono (fun a' w' h3 => ?_) h2
      have hjp : j ≠ p := fun e => not_ready_path hc hw hun (e ▸ hj)
      have hpp : (listed.setIfInBounds j true).getD p true = false := by rw [getD_set_ne true hjp]; exact hp
      have hS' : S w' := h3.2.1 (by rw [Array.setIfInBounds_comm _ _ (Ne.symm hji), getD_set_ne true (Ne.symm hip)]; exact hpp)
      refine ⟨fun _ => hS', ih (listed.setIfInBounds j true) a' w' (closed_set hc hj) hfree' (ready_mono hr (Ne.symm hji)) h3.1 hpp hS' ?_⟩
      rw [Array.setIfInBounds_comm _ _ hji]
      exact h3.2.2
/-- a load that comes ahead of p along a path -/
theorem P_takeT (i d : Nat) (v : Value) (l' : Array Bool) (xs : List Nat) {oi : Oper} {fuel : Nat} {listed : Array Bool} {ts : Array Value} {ds : List Deferred} {w : World} (hi : ops[i]? = some oi) (hd : oi.dst = some d) (hl : listed.setIfInBounds i true = l')
    (hs : Region.noSelect ops = true) (hf : Region.free md ops listed i = true) (hr : (Region.ready md ops listed).contains i = true) (hz : pathB md ops i p xs = true) (hc : closedB md ops listed = true) (hp : listed.getD p true = false) (hip : p ≠ i)
    (hQ : ∀ c a w, Q (.panic c) (a.put oi.dst v) w → Q (.panic c) a w) (hy : YieldsIf P ops S oi v ⟨ts, ds⟩) (hS : S w)
    (h : wpAnyP P md ops Q S p fuel l' ⟨ts.setIfInBounds d v, ds⟩ w) : wpAnyP P md ops Q S p (fuel + 1) listed ⟨ts, ds⟩ w := by
  subst hl
  refine wpAnyP_firstT hi (Region.noSelect_spec hs) hQ hz hip fuel listed _ w (closedB_spec hc) (Region.free_spec hi hf) (by simpa using hr) hy hp hS ?_
  rw [hd]; exact h
theorem P_twoS (i j : Nat) (l1 l2 : Array Bool) {oi oj : Oper} {fuel : Nat} {listed : Array Bool} {a : Act} {w : World} (hi : ops[i]? = some oi) (hj : ops[j]? = some oj) (e1 : listed.setIfInBounds i true = l1) (e2 : listed.setIfInBounds j true = l2) (hr : Region.ready md ops listed = [i, j]) (gi : oi.guard = none) (gj : oj.guard = none)
    (h1 : ∀ K : Act → World → Prop, (∀ a' w', S w' → wpAnyP P md ops Q S p fuel l1 a' w' → K a' w') → oi.wp P a w K Q)
    (h2 : ∀ K : Act → World → Prop, (∀ a' w', S w' → wpAnyP P md ops Q S p fuel l2 a' w' → K a' w') → oj.wp P a w K Q) : wpAnyP P md ops Q S p (fuel + 1) listed a w := by
  subst e1; subst e2
  refine ⟨fun h0 => (by rw [hr] at h0; cases h0), fun q hq => ?_⟩
  rw [hr] at hq
  simp only [List.mem_cons, List.not_mem_nil, or_false] at hq
  rcases hq with rfl | rfl
  · unfold wpOp
    simp only [hi]
    rw [if_pos (by simp [Region.wanted, gi])]
    exact .inl (h1 _ fun _ _ q1 q2 => ⟨fun _ => q1, q2⟩)
  · unfold wpOp
    simp only [hj]
    rw [if_pos (by simp [Region.wanted, gj])]
    exact .inl (h2 _ fun _ _ q1 q2 => ⟨fun _ => q1, q2⟩)
end
end Go.Proofs.YtpdalbckmfadbaaGreat

