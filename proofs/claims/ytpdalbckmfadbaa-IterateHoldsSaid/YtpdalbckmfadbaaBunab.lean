/-
  Bundle of the texts J L M N V. Conditions: none.
-/
import Derived.Test.YtpdalbckmfadbaaBunaa
import Derived.Deep.RegionHeld3
import Derived.OwnWalk
namespace Go.Proofs.Ytpdalbckmfadbaa
open Go.RowKit
set_option linter.unusedVariables false
/-- An object of three ints with any tag. -/
def Obj3t (e : TypeId) (w : World) (base b : Nat) (x y z : Int) : Prop := Own .i64 e w base (some ⟨b, 0, none⟩) 3 3 [x, y, z]
theorem regRes (W : World) (b : Nat) (x y z : Int) (h : W.heap[b]? = some (.cells #[.int .i64 x, .int .i64 y, .int .i64 z] 149 (0, 0))) :
    (loadVar 149 ⟨b, 0, none⟩).run Try.prog W = .ok (.agg #[.int .i64 x, .int .i64 y, .int .i64 z]) W :=
  run_loadVar_row (P := Try.prog) W b 149 149 _ (0, 0) _ h Try.underlying149 rfl (by kernel_rfl)
set_option maxRecDepth 100000 in
set_option maxHeartbeats 1000000 in
theorem regat_any (a b c : Bool) (w : World) : Calls Try.prog 92 #[.int .i64 (stI a b c)] w fun e w' => e = .returned (regV a b c) ∧ Below w.heap.size w w' := by
  unfold regV
  cases a <;> cases b <;> cases c <;> (
    simp only [stI, ib, if_true, if_false, Bool.false_eq_true]
    go_enter Try.func92, Try.ntmps92
    go_wp2
    go_returns
    refine ⟨?_, (Below.refl _ w).alloc (Nat.le_refl _) _⟩
    try rfl
    try decide)
set_option maxRecDepth 100000 in
set_option maxHeartbeats 1000000 in
theorem step_any (a b c x : Bool) (w : World) : Calls Try.prog 100 #[regV a b c, .int .i64 (ib x)] w fun e w' => e = .returned (.tuple #[regV (x ^^ b ^^ c) a b, .int .i64 (ib (x ^^ b ^^ c ^^ a ^^ c))]) ∧ Below w.heap.size w w' := by
  have hx := xor_ib
  unfold regV
  go_enter Try.func100, Try.ntmps100
  go_wp2
  go_region
  go_wp2
  have e1 : (x != (b != c)) = (x ^^ b ^^ c) := by cases x <;> cases b <;> cases c <;> rfl
  have e2 : (x != (b != (c != (a != c)))) = (x ^^ b ^^ c ^^ a ^^ c) := by cases x <;> cases b <;> cases c <;> cases a <;> rfl
  go_returns
  exact ⟨by rw [e1, e2], ((((Below.refl _ w).alloc (Nat.le_refl _) _).alloc (by simp) _).trans (by first | exact Below.refl _ _ | exact Qt.below ⟨_, rfl⟩ _))⟩
end Go.Proofs.Ytpdalbckmfadbaa

namespace Go.Proofs.Ytpdalbckmfadbaa
open Go.RowKit
set_option linter.unusedVariables false
/-- An encoder in block o: three bits and its parity row. -/
structure EncSt (base : Nat) (w : World) (o : Nat) (a b c : Bool) (A : Option Addr) (n cp : Nat) (ps : List Bool) : Prop where
  obj : Ownv 151 w base (some ⟨o, 0, none⟩) 4 4 [.int .i64 (ib a), .int .i64 (ib b), .int .i64 (ib c), .slice A n cp]
  row : Own .u8 5 w base A n cp (ps.map ib)
  ne : A ≠ none → blk A ≠ o
  le : base ≤ w.heap.size
theorem EncSt.facts {base : Nat} {w : World} {o : Nat} {a b c : Bool} {A : Option Addr} {n cp : Nat} {ps : List Bool} (h : EncSt base w o a b c A n cp ps) :
    w.cell? ⟨o, 0, none⟩ = some (.int .i64 (ib a)) ∧ w.cell? ⟨o, 1, none⟩ = some (.int .i64 (ib b)) ∧ w.cell? ⟨o, 2, none⟩ = some (.int .i64 (ib c)) ∧ w.cell? ⟨o, 3, none⟩ = some (.slice A n cp) ∧
    w.frozen? ⟨o, 0, none⟩ = false ∧ w.frozen? ⟨o, 1, none⟩ = false ∧ w.frozen? ⟨o, 2, none⟩ = false ∧ w.frozen? ⟨o, 3, none⟩ = false :=
  ⟨h.obj.rd.at_ 0 _ rfl, h.obj.rd.at_ 1 _ rfl, h.obj.rd.at_ 2 _ rfl, h.obj.rd.at_ 3 _ rfl, Ownv.frozen h.obj (by omega) 0, Ownv.frozen h.obj (by omega) 1, Ownv.frozen h.obj (by omega) 2, Ownv.frozen h.obj (by omega) 3⟩
theorem EncSt.below {base : Nat} {w w' : World} {o : Nat} {a b c : Bool} {A : Option Addr} {n cp : Nat} {ps : List Bool} (h : EncSt base w o a b c A n cp ps) (hB : Below w.heap.size w w') : EncSt base w' o a b c A n cp ps :=
  ⟨h.obj.below hB, Ownv.below h.row hB, h.ne, Nat.le_trans h.le hB.size⟩
theorem EncSt.alloc {base : Nat} {w : World} {o : Nat} {a b c : Bool} {A : Option Addr} {n cp : Nat} {ps : List Bool} (h : EncSt base w o a b c A n cp ps) (x : Obj) : EncSt base (w.alloc x) o a b c A n cp ps :=
  ⟨h.obj.alloc x, Ownv.alloc h.row x, h.ne, by have := h.le; simp; omega⟩
theorem EncSt.put {base : Nat} {w : World} {o : Nat} {a b c : Bool} {A : Option Addr} {n cp : Nat} {ps : List Bool} (h : EncSt base w o a b c A n cp ps) (a' b' c' : Bool) :
    EncSt base (((w.setCell ⟨o, 0, none⟩ (.int .i64 (ib a'))).setCell ⟨o, 1, none⟩ (.int .i64 (ib b'))).setCell ⟨o, 2, none⟩ (.int .i64 (ib c'))) o a' b' c' A n cp ps ∧
      Below base w (((w.setCell ⟨o, 0, none⟩ (.int .i64 (ib a'))).setCell ⟨o, 1, none⟩ (.int .i64 (ib b'))).setCell ⟨o, 2, none⟩ (.int .i64 (ib c'))) := by
  have hb : base ≤ o := (Ownv.blk_ge h.obj (by omega)).1
  have s0 := Ownv.set_ h.obj (j := 0) (by omega) (.int .i64 (ib a'))
  have s1 := Ownv.set_ s0.1 (j := 1) (by omega) (.int .i64 (ib b'))
  have s2 := Ownv.set_ s1.1 (j := 2) (by omega) (.int .i64 (ib c'))
  have hn : A ≠ none → some (blk A) ≠ some o := fun hA he => h.ne hA (Option.some.inj he)
  have r0 := Ownv.grown h.row s0.2 hn
  have r1 := Ownv.grown r0 s1.2 hn
  have r2 := Ownv.grown r1 s2.2 hn
  have g : ∀ {W W' : World}, Below base w W → W.grownBy W' (some o) → Below base w W' := fun hB hg => hB.grown hg (Nat.le_trans h.le hB.size) (fun k hk => by injection hk with hk; omega)
  have g2 := g (g (g (Below.refl base w) s0.2) s1.2) s2.2
  exact ⟨⟨s2.1, r2, h.ne, Nat.le_trans h.le g2.size⟩, g2⟩
/-- Rows of different element types lie in different blocks. -/
theorem own_tag_ne {e e' : TypeId} {w : World} {base base' : Nat} {A B : Option Addr} {n c m d : Nat} {vs us : List Value} (h : Ownv e w base A n c vs) (h' : Ownv e' w base' B m d us) (he : e ≠ e') (hA : A ≠ none) (hB : B ≠ none) : blk A ≠ blk B := by
  obtain ⟨_, h2⟩ := h.cases
  obtain ⟨_, h2'⟩ := h'.cases
  rcases h2 with ⟨rfl, _⟩ | ⟨g, cur, rfl, _, hh, _⟩
  · exact absurd rfl hA
  · rcases h2' with ⟨rfl, _⟩ | ⟨g', cur', rfl, _, hh', _⟩
    · exact absurd rfl hB
    · intro hg
      have hg : g = g' := hg
      subst hg
      rw [hh] at hh'
      injection hh' with h3
      injection h3 with _ h4
      exact he h4
theorem Ownv.blk_of {e : TypeId} {w : World} {base : Nat} {A : Option Addr} {n c : Nat} {vs : List Value} (h : Ownv e w base A n c vs) (hA : A ≠ none) : base ≤ blk A ∧ blk A < w.heap.size := by
  obtain ⟨hl, h2⟩ := h.cases
  rcases h2 with ⟨rfl, rfl, rfl⟩ | ⟨g, cur, rfl, hb, hh, hnc, hcm, hs, ht⟩
  · exact absurd rfl hA
  · exact ⟨hb, (Array.getElem?_eq_some_iff.1 hh).1⟩
set_option maxRecDepth 100000 in
set_option maxHeartbeats 300000 in
theorem takes_any (base o : Nat) (a b c x : Bool) (A : Option Addr) (n cp : Nat) (ps : List Bool) (w : World) (h : EncSt base w o a b c A n cp ps) (hn : n ≤ 100000) :
    Calls Try.prog 89 #[.pointer (some ⟨o, 0, none⟩), .int .i64 (ib x)] w fun e w' => e = .returned (.int .i64 (ib (x ^^ b ^^ c ^^ a ^^ c))) ∧ (∃ A' cp', EncSt base w' o (x ^^ b ^^ c) a b A' (n + 1) cp' (ps ++ [x ^^ b ^^ c ^^ a ^^ c])) ∧ Below base w w' := by
  obtain ⟨c0, c1, c2, c3, -, -, -, -⟩ := h.facts
  have hs := fun W => Lib.hid (step_any a b c x W)
  generalize (x ^^ b ^^ c) = a' at *
  generalize (a' ^^ a ^^ c) = p at *
  unfold regV at hs
  go_enter Try.func89, Try.ntmps89
  go_wp2_with fail
  refine (hs _).out.mono ?_
  rintro e w1 ⟨rfl, hB1⟩
  have h1 := (h.below hB1).alloc (.cells #[.int .i64 (ib a'), .int .i64 (ib a), .int .i64 (ib b)] 149)
  obtain ⟨d0, d1, d2, d3, f0, f1, f2, f3⟩ := h1.facts
  have HP := Lib.hid (h1.put a' a b)
  have HLE := Lib.hid h.le
  have HNE : Hid (some (blk (some ⟨o, 0, none⟩)) = (Value.slice A n cp).ownBlock → False) := Lib.hid (fun he => by
    rcases A with _ | A
    · simp [Value.ownBlock] at he
    · have h3 := (Ownv.cases h.row).2
      rcases h3 with ⟨h4, _⟩ | ⟨g, cur, h4, _⟩
      · cases h4
      · cases h4
        refine h.ne (by simp) ?_
        simp [Value.ownBlock] at he
        exact he.symm)
  clear c0 c1 c2 c3 h1 h hs
  have hp0 : 0 ≤ ib p := by cases p <;> decide
  have hp1 : ib p ≤ 1 := by cases p <;> decide
  obtain ⟨ip, hip⟩ : ∃ ip, ib p = ip := ⟨_, rfl⟩
  rw [hip] at hp0 hp1 ⊢
  have HSZ : Hid (((((w1.alloc (.cells #[.int .i64 (ib a'), .int .i64 (ib a), .int .i64 (ib b)] 149)).setCell ⟨o, 0, none⟩ (.int .i64 (ib a'))).setCell ⟨o, 1, none⟩ (.int .i64 (ib a))).setCell ⟨o, 2, none⟩ (.int .i64 (ib b))).heap.size = w1.heap.size + 1) := Lib.hid (by simp)
  go_wp2_with (at_builtin; refine list_of rfl fun K hK => wp_app1 _ _ 24 rfl el26 rfl (.int .u8 ip) (by rw [HSZ.out]; rfl) rfl HP.out.1.row (by omega) (by omega) HP.out.1.le ?_; intro A' c' w' hO' hg; have hobj := Ownv.grown HP.out.1.obj hg (fun _ he => HNE.out he); have e3 : w'.cell? ⟨o, 3, none⟩ = some (.slice A n cp) := hobj.rd.at_ 3 _ rfl; have e3f : w'.frozen? ⟨o, 3, none⟩ = false := Ownv.frozen hobj (by omega) 3; refine hK _ _ ?_; clear hK K)
  go_ret
  have hb : base ≤ o := (Ownv.blk_ge hobj (by omega)).1
  have s3 := Ownv.set_ hobj (j := 3) (by omega) (.slice A' (n + 1) c')
  have hB2 : Below base w w1 := hB1.mono HLE.out
  have hB3 : Below base w w' := ((hB2.alloc (Nat.le_trans HLE.out hB1.size) _).trans HP.out.2).grown hg (by have := HP.out.1.le; exact this) (fun k hk => Ownv.ob' HP.out.1.row hk)
  refine ⟨ret_int hip.symm, ⟨A', c', s3.1, ?_, fun hA => own_tag_ne hO' hobj (by decide) hA (by simp), ?_⟩, ?_⟩
  · rw [List.map_append]
    exact Ownv.grown (Own.of_eq hO' rfl (by simp [hip])) s3.2 (fun hA he => own_tag_ne hO' hobj (by decide) hA (by simp) (Option.some.inj he))
  · exact Nat.le_trans (Nat.le_trans HLE.out hB3.size) s3.2.size
  · exact hB3.grown s3.2 (Nat.le_trans HLE.out hB3.size) (fun k hk => by injection hk with hk; rw [← hk]; exact hb)
end Go.Proofs.Ytpdalbckmfadbaa

namespace Go.Proofs.Ytpdalbckmfadbaa
open Go.RowKit
set_option linter.unusedVariables false
def ValidB (xs : List Int) : Bool := xs.all (fun x => decide (x ≤ 1))
theorem validB_f {xs : List Int} {j : Nat} (hj : j < xs.length) (h : 1 < gi xs j) : ValidB xs = false := by
  rw [Bool.eq_false_iff]; intro hh
  have := all_gi.1 hh j hj
  simp at this; omega
theorem validB_t {xs : List Int} (h : ∀ q, q < xs.length → gi xs q ≤ 1) : ValidB xs = true := all_gi.2 fun j hj => by simpa using h j hj
theorem inv1_any (b : Int) (w : World) : Calls Try.prog 88 #[.int .u8 b] w fun e w' => e = .returned (.bool (decide (1 < b))) ∧ w = w' := by
  go_enter Try.func88, Try.ntmps88
  go_wp2
  go_ret
  exact ⟨rfl, rfl⟩
def IdxInv (n : Nat) (xs : List Int) (i : Value) : Prop := ∃ j : Nat, j ≤ n ∧ i = .int .i64 j ∧ ∀ q, q < j → gi xs q ≤ 1
def IdxPost (xs : List Int) (w : World) (e : Ending) (w' : World) : Prop := ∃ r : Int, e = .returned (.int .i64 r) ∧ (0 ≤ r ↔ ValidB xs = false) ∧ w = w'
set_option maxHeartbeats 400000 in
theorem idx_any (A : Option Addr) (n c : Nat) (xs : List Int) (w : World) (h : Rd .u8 w A n c xs) :
    Calls Try.prog 65 #[.slice A n c, .func (.func 88) #[] #[]] w (IdxPost xs w) := by
  have hbd := h.bd.1
  go_enter Try.func65, Try.ntmps65
  go_wp2
  go_loop [8] (fun i => IdxInv n xs i) (fun i => n - (intOf i).toNat)
  case atStart => exact ⟨0, by omega, rfl, by intro q hq; omega⟩
  case round =>
    obtain ⟨j, hj, rfl, hv⟩ := hrel
    by_cases hlt : j < n
    · have hc := Rd.cell h hlt
      have hix := fun W => Rdv.ix h el26 hlt .i64 W
      have HV := Lib.hid hv; clear hv
      by_cases h1 : gi xs j ≤ 1
      · have h1' : decide (1 < gi xs j) = false := by simp; omega
        go_wp2_with (go_at_call 88; refine (inv1_any _ _).mono ?_; rintro e w' ⟨rfl, rfl⟩)
        go_round
        case rel => exact ⟨j + 1, by omega, by go_num, fun q hq => lt_succ_cases HV.out h1 q hq⟩
        case measure => simp [intOf]; omega
      · have h1' : decide (1 < gi xs j) = true := by simp; omega
        have hf := Lib.hid (validB_f (by rw [h.len]; exact hlt) (by omega : 1 < gi xs j))
        go_wp2_with (go_at_call 88; refine (inv1_any _ _).mono ?_; rintro e w' ⟨rfl, rfl⟩)
        go_ret
        exact ⟨_, rfl, by rw [hf.out]; simp, rfl⟩
    · have hf := Lib.hid (validB_t (xs := xs) (by rw [h.len]; intro q hq; exact hv q (by omega)))
      go_wp2
      go_ret
      exact ⟨_, rfl, by rw [hf.out]; simp, rfl⟩
theorem contains_any (A : Option Addr) (n c : Nat) (xs : List Int) (w : World) (h : Rd .u8 w A n c xs) :
    Calls Try.prog 42 #[.slice A n c, .func (.func 88) #[] #[]] w fun e w' => e = .returned (.bool (!ValidB xs)) ∧ w = w' := by
  go_enter Try.func42, Try.ntmps42
  go_wp2_with (go_at_call 65; refine (idx_any A n c xs w h).mono ?_; rintro e w' ⟨r, rfl, hr, rfl⟩)
  go_ret
  refine ⟨ret_bool ?_, rfl⟩
  cases hv : ValidB xs <;> simp_all
end Go.Proofs.Ytpdalbckmfadbaa

namespace Go.Proofs.Ytpdalbckmfadbaa
open Go.RowKit
set_option linter.unusedVariables false
abbrev St3 := Bool × Bool × Bool
def stp (s : St3) (x : Bool) : St3 := (x ^^ s.2.1 ^^ s.2.2, s.1, s.2.1)
def par (s : St3) (x : Bool) : Bool := x ^^ s.2.1 ^^ s.2.2 ^^ s.1 ^^ s.2.2
def parL (s : St3) : List Bool → List Bool
  | [] => []
  | x :: l => par s x :: parL (stp s x) l
def s0 : St3 := (false, false, false)
theorem parL_snoc (l : List Bool) (x : Bool) : ∀ s, parL s (l ++ [x]) = parL s l ++ [par (l.foldl stp s) x] := by
  induction l with
  | nil => intro s; rfl
  | cons y l ih => intro s; simp only [List.cons_append, parL, List.foldl_cons, ih]
theorem parL_len (l : List Bool) : ∀ s, (parL s l).length = l.length := by
  induction l with
  | nil => intro s; rfl
  | cons y l ih => intro s; simp [parL, ih]
def EncInv (w : World) (o : Nat) (bs : List Bool) (i : Value) (wr : World) : Prop :=
  ∃ (j : Nat) (A : Option Addr) (cp : Nat), j ≤ bs.length ∧ i = .int .i64 j ∧ EncSt w.heap.size wr o ((bs.take j).foldl stp s0).1 ((bs.take j).foldl stp s0).2.1 ((bs.take j).foldl stp s0).2.2 A j cp (parL s0 (bs.take j)) ∧ Below w.heap.size w wr
theorem gi_ib (bs : List Bool) (j : Nat) (h : j < bs.length) : gi (bs.map ib) j = ib bs[j] := by
  rw [gi_eq _ _ (by simpa using h)]; simp
theorem valid_ib (bs : List Bool) : ValidB (bs.map ib) = true := validB_t fun q hq => by
  rw [gi_ib _ _ (by simpa using hq)]; cases bs[q]'(by simpa using hq) <;> decide
set_option maxRecDepth 100000 in
set_option maxHeartbeats 600000 in
theorem tencode_any (A : Option Addr) (n c : Nat) (bs : List Bool) (w : World) (h : Rd .u8 w A n c (bs.map ib)) (hn : n ≤ 100000) :
    Calls Try.prog 68 #[.slice A n c] w fun e w' => ∃ A' c', e = .returned (.tuple #[.slice A' n c', .int .i64 (stI (bs.foldl stp s0).1 (bs.foldl stp s0).2.1 (bs.foldl stp s0).2.2), .int .i64 0]) ∧ Own .u8 5 w' w.heap.size A' n c' ((parL s0 bs).map ib) ∧ Below w.heap.size w w' := by
  have hl : bs.length = n := by have := h.len; simpa using this
  have hbd := h.bd.1
  have hv := valid_ib bs
  go_enter Try.func68, Try.ntmps68
  go_wp2_with (go_at_call 42; refine (contains_any A n c _ w h).mono ?_; rintro e w' ⟨rfl, rfl⟩)
  have hob : Ownv 151 (w.alloc (.cells #[.int .i64 0, .int .i64 0, .int .i64 0, .slice none 0 0] 151)) w.heap.size (some ⟨w.heap.size, 0, none⟩) 4 4 [.int .i64 (ib false), .int .i64 (ib false), .int .i64 (ib false), .slice none 0 0] :=
    Ownv.lit w #[.int .i64 0, .int .i64 0, .int .i64 0, .slice none 0 0] 151 rfl (Nat.le_refl _) (by show 4 ≤ maxLen; unfold maxLen; omega)
  have hst : EncSt w.heap.size (w.alloc (.cells #[.int .i64 0, .int .i64 0, .int .i64 0, .slice none 0 0] 151)) w.heap.size false false false none 0 0 [] := ⟨hob, Own.nilv _ _ _ _, fun h => absurd rfl h, by simp⟩
  have hB0 : Below w.heap.size w (w.alloc (.cells #[.int .i64 0, .int .i64 0, .int .i64 0, .slice none 0 0] 151)) := (Below.refl _ w).alloc (Nat.le_refl _) _
  have HH := Lib.hid h
  have HL := Lib.hid hl
  clear hob h hl
  go_loopw [12] (fun i wr => EncInv w w.heap.size bs i wr) (fun i _ => n - (intOf i).toNat)
  case atStart => exact ⟨0, none, 0, Nat.zero_le _, rfl, hst, hB0⟩
  case round =>
    obtain ⟨j, A1, cp, hj, rfl, hst, hB⟩ := hrel
    rw [HL.out] at hj
    by_cases hlt : j < n
    · have hj' : j < bs.length := by rw [HL.out]; exact hlt
      have hx := Rdv.below HH.out hB
      have hix := fun W => Rdv.ix hx el26 hlt .i64 W
      have hcell := Rd.cell hx hlt
      rw [gi_ib _ _ hj'] at hcell
      have ht : bs.take (j + 1) = bs.take j ++ [bs[j]] := by rw [List.take_add_one, List.getElem?_eq_getElem hj']; rfl
      have e1 : (bs.take (j + 1)).foldl stp s0 = stp ((bs.take j).foldl stp s0) bs[j] := by rw [ht, List.foldl_append]; rfl
      have e2 : parL s0 (bs.take (j + 1)) = parL s0 (bs.take j) ++ [par ((bs.take j).foldl stp s0) bs[j]] := by rw [ht, parL_snoc]
      have E1 := Lib.hid e1; have E2 := Lib.hid e2
      have HST := Lib.hid hst
      have hb0 : 0 ≤ ib bs[j] := by cases bs[j] <;> decide
      have hb1 : ib bs[j] ≤ 1 := by cases bs[j] <;> decide
      clear ht e1 e2 hst
      generalize (bs.take j).foldl stp s0 = s at *
      generalize parL s0 (bs.take j) = ps at *
      generalize bs[j] = x at *
      go_wp2_with (go_at_call 89; refine (takes_any w.heap.size w.heap.size s.1 s.2.1 s.2.2 x A1 j cp ps _ HST.out (by omega)).mono ?_; rintro e w4 ⟨rfl, ⟨A2, cp2, hst2⟩, hB2⟩)
      refine ⟨⟨j + 1, A2, cp2, by omega, by go_num, ?_, hB.trans hB2⟩, by simp [intOf]; omega⟩
      rw [E1.out, E2.out]
      exact hst2
    · obtain rfl : j = n := by omega
      rw [← HL.out, List.take_length, HL.out] at hst
      have HST := Lib.hid hst
      obtain ⟨c0, c1, c2, c3, -, -, -, -⟩ := hst.facts
      clear hst
      generalize hs : bs.foldl stp s0 = s at *
      have HS := Lib.hid hs
      clear hs
      have hs60 := fun W => Lib.hid (state_any s.1 s.2.1 s.2.2 W)
      unfold regV at hs60
      go_wp2
      go_region_held3 (fun W => W.cell? ⟨w.heap.size, 0, none⟩ = some (.int .i64 (ib s.1)) ∧ W.cell? ⟨w.heap.size, 1, none⟩ = some (.int .i64 (ib s.2.1)) ∧ W.cell? ⟨w.heap.size, 2, none⟩ = some (.int .i64 (ib s.2.2)) ∧ W.cell? ⟨w.heap.size, 3, none⟩ = some (.slice A1 j cp)) (first | exact ⟨c0, c1, c2, c3⟩ | exact ⟨m0, m1, m2, m3⟩)
        (first
          | (go_at_call 90; refine (hs60 _).out.mono ?_; rintro e w5 ⟨rfl, hB5⟩; obtain ⟨m0, m1, m2, m3, -, -, -, -⟩ := (HST.out.below ((Below.refl _ _).drew.trans hB5)).facts))
      go_wp2
      go_ret3
      rw [HS.out]
      have hq := (Below.refl wr.heap.size wr).drew.trans hB5
      exact ⟨A1, cp, rfl, (HST.out.below hq).row, hB.trans (hq.mono hB.size)⟩
theorem tencode_bad (A : Option Addr) (n c : Nat) (xs : List Int) (w : World) (h : Rd .u8 w A n c xs) (hv : ValidB xs = false) :
    Calls Try.prog 68 #[.slice A n c] w fun e w' => e = .returned (.tuple #[.slice none 0 0, .int .i64 0, .int .i64 3]) ∧ w = w' := by
  go_enter Try.func68, Try.ntmps68
  go_wp2_with (go_at_call 42; refine (contains_any A n c _ w h).mono ?_; rintro e w' ⟨rfl, rfl⟩)
  go_ret3
  exact ⟨rfl, rfl⟩
end Go.Proofs.Ytpdalbckmfadbaa

namespace Go.Proofs.Ytpdalbckmfadbaa
open Go.RowKit
set_option linter.unusedVariables false
def tlS (a b c : Bool) (j : Nat) : St3 := if j = 0 then (a, b, c) else if j = 1 then (false, a, b) else if j = 2 then (false, false, a) else (false, false, false)
def tlU (a b c : Bool) (j : Nat) : Bool := if j = 0 then (b ^^ c) else if j = 1 then (a ^^ b) else a
def tlZ (a b c : Bool) (j : Nat) : Bool := if j = 0 then (a ^^ c) else if j = 1 then b else a
theorem tl_step (a b c : Bool) (j : Nat) (h : j < 3) : stp (tlS a b c j) (tlU a b c j) = tlS a b c (j + 1) ∧ par (tlS a b c j) (tlU a b c j) = tlZ a b c j ∧ ((tlS a b c j).2.1 ^^ (tlS a b c j).2.2) = tlU a b c j := by
  rcases (by omega : j = 0 ∨ j = 1 ∨ j = 2) with rfl | rfl | rfl <;> cases a <;> cases b <;> cases c <;> decide
def tu (s : St3) (j : Nat) : Bool := tlU s.1 s.2.1 s.2.2 j
def tz (s : St3) (j : Nat) : Bool := tlZ s.1 s.2.1 s.2.2 j
def fin (bs : List Bool) : St3 := bs.foldl stp s0
def xorS (s t : St3) : St3 := (s.1 ^^ t.1, s.2.1 ^^ t.2.1, s.2.2 ^^ t.2.2)
def xorL (x y : List Bool) : List Bool := List.zipWith xor x y
theorem stp_xor (s t : St3) (x y : Bool) : stp (xorS s t) (x ^^ y) = xorS (stp s x) (stp t y) := by
  obtain ⟨a, b, c⟩ := s; obtain ⟨d, e, f⟩ := t
  show ((x ^^ y) ^^ (b ^^ e) ^^ (c ^^ f), (a ^^ d), (b ^^ e)) = ((x ^^ b ^^ c) ^^ (y ^^ e ^^ f), a ^^ d, b ^^ e)
  refine Prod.ext ?_ rfl
  show ((x ^^ y) ^^ (b ^^ e) ^^ (c ^^ f)) = ((x ^^ b ^^ c) ^^ (y ^^ e ^^ f))
  cases b <;> cases c <;> cases e <;> cases f <;> cases x <;> cases y <;> rfl
theorem par_xor (s t : St3) (x y : Bool) : par (xorS s t) (x ^^ y) = (par s x ^^ par t y) := by
  obtain ⟨a, b, c⟩ := s; obtain ⟨d, e, f⟩ := t
  simp only [par, xorS]
  cases a <;> cases b <;> cases c <;> cases d <;> cases e <;> cases f <;> cases x <;> cases y <;> rfl
theorem tu_xor (s t : St3) (j : Nat) : tu (xorS s t) j = (tu s j ^^ tu t j) := by
  obtain ⟨a, b, c⟩ := s; obtain ⟨d, e, f⟩ := t
  simp only [tu, tlU, xorS]
  split
  · cases b <;> cases c <;> cases e <;> cases f <;> rfl
  · split
    · cases a <;> cases b <;> cases d <;> cases e <;> rfl
    · rfl
theorem tz_xor (s t : St3) (j : Nat) : tz (xorS s t) j = (tz s j ^^ tz t j) := by
  obtain ⟨a, b, c⟩ := s; obtain ⟨d, e, f⟩ := t
  simp only [tz, tlZ, xorS]
  split
  · cases a <;> cases c <;> cases d <;> cases f <;> rfl
  · split <;> rfl
theorem fold_xor : ∀ (x y : List Bool) (s t : St3), x.length = y.length → (xorL x y).foldl stp (xorS s t) = xorS (x.foldl stp s) (y.foldl stp t)
  | [], [], s, t, _ => rfl
  | [], _ :: _, _, _, h => by cases h
  | _ :: _, [], _, _, h => by cases h
  | a :: x, b :: y, s, t, h => by
    simp only [xorL, List.zipWith_cons_cons, List.foldl_cons]
    rw [show (a ^^ b) = xor a b from rfl, stp_xor]
    exact fold_xor x y _ _ (by simpa using h)
theorem parL_xor : ∀ (x y : List Bool) (s t : St3), x.length = y.length → parL (xorS s t) (xorL x y) = xorL (parL s x) (parL t y)
  | [], [], s, t, _ => rfl
  | [], _ :: _, _, _, h => by cases h
  | _ :: _, [], _, _, h => by cases h
  | a :: x, b :: y, s, t, h => by
    simp only [xorL, List.zipWith_cons_cons, parL]
    rw [stp_xor, par_xor]
    congr 1
    exact parL_xor x y _ _ (by simpa using h)
theorem s0_xor : xorS s0 s0 = s0 := rfl
theorem fin_xor (x y : List Bool) (h : x.length = y.length) : fin (xorL x y) = xorS (fin x) (fin y) := by
  have := fold_xor x y s0 s0 h
  rwa [s0_xor] at this
theorem par0_xor (x y : List Bool) (h : x.length = y.length) : parL s0 (xorL x y) = xorL (parL s0 x) (parL s0 y) := by
  have := parL_xor x y s0 s0 h
  rwa [s0_xor] at this
theorem xorL_app (a b c d : List Bool) (h : a.length = c.length) : xorL (a ++ b) (c ++ d) = xorL a c ++ xorL b d := List.zipWith_append h
theorem xorL_len (x y : List Bool) (h : x.length = y.length) : (xorL x y).length = x.length := by simp [xorL, h]
theorem xorL_self : ∀ x : List Bool, xorL x x = List.replicate x.length false
  | [] => rfl
  | a :: x => by simp only [xorL, List.zipWith_cons_cons, List.length_cons, List.replicate_succ, bne_self_eq_false]; congr 1; exact xorL_self x
/-- the number of ones -/
def wt (l : List Bool) : Nat := l.count true
def w1 (b : Bool) : Nat := if b then 1 else 0
theorem wt_app (a b : List Bool) : wt (a ++ b) = wt a + wt b := List.count_append
theorem wt_cons (a : Bool) (b : List Bool) : wt (a :: b) = w1 a + wt b := by
  unfold wt w1; rw [List.count_cons]; cases a <;> simp <;> omega
theorem wt_nil : wt [] = 0 := rfl
def tlW (s : St3) : Nat := w1 (tu s 0) + w1 (tu s 1) + w1 (tu s 2) + w1 (tz s 0) + w1 (tz s 1) + w1 (tz s 2)
/-- a lower bound of what is still to come -/
def pot : St3 → Nat
  | (false, false, false) => 0
  | (false, false, true) => 2
  | (false, true, false) => 3
  | (false, true, true) => 3
  | (true, false, false) => 4
  | (true, false, true) => 4
  | (true, true, false) => 3
  | (true, true, true) => 3
theorem pot_tail : ∀ s : St3, pot s ≤ tlW s := by
  rintro ⟨a, b, c⟩; cases a <;> cases b <;> cases c <;> decide
theorem pot_step : ∀ (s : St3) (x : Bool), pot s ≤ w1 x + w1 (par s x) + pot (stp s x) := by
  rintro ⟨a, b, c⟩ x; cases a <;> cases b <;> cases c <;> cases x <;> decide
theorem pot_le (bs : List Bool) : ∀ s, pot s ≤ wt bs + wt (parL s bs) + tlW (bs.foldl stp s) := by
  induction bs with
  | nil => intro s; simpa [wt, parL] using pot_tail s
  | cons x bs ih =>
    intro s
    have h1 := pot_step s x
    have h2 := ih (stp s x)
    simp only [parL, List.foldl_cons, wt_cons]
    omega
theorem free6 (bs : List Bool) (h : true ∈ bs) : 6 ≤ wt bs + wt (parL s0 bs) + tlW (fin bs) := by
  unfold fin
  induction bs with
  | nil => cases h
  | cons x bs ih =>
    simp only [parL, List.foldl_cons, wt_cons]
    cases x with
    | true =>
      have h1 := pot_le bs (stp s0 true)
      have h2 : pot (stp s0 true) = 4 := rfl
      have h3 : w1 true + w1 (par s0 true) = 2 := rfl
      omega
    | false =>
      have h1 : stp s0 false = s0 := rfl
      have h2 : true ∈ bs := by simpa using h
      have h3 := ih h2
      rw [h1]
      omega
/-- The word of a turbo code over bits. -/
def wordB (x m : List Bool) : List Bool :=
  x ++ [tu (fin x) 0, tz (fin x) 1, tu (fin m) 0, tz (fin m) 1] ++ (parL s0 x ++ [tz (fin x) 0, tu (fin x) 2, tz (fin m) 0, tu (fin m) 2]) ++ (parL s0 m ++ [tu (fin x) 1, tz (fin x) 2, tu (fin m) 1, tz (fin m) 2])
theorem wordB_len (x m : List Bool) (h : m.length = x.length) : (wordB x m).length = 3 * (x.length + 4) := by
  simp only [wordB, List.length_append, parL_len, List.length_cons, List.length_nil, h]; omega
theorem wordB_xor (x y m l : List Bool) (h : x.length = y.length) (h' : m.length = l.length) : wordB (xorL x y) (xorL m l) = xorL (wordB x m) (wordB y l) := by
  unfold wordB
  rw [xorL_app _ _ _ _ (by simp [parL_len, h]), xorL_app _ _ _ _ (by simp [h]), xorL_app _ _ _ _ h, xorL_app _ _ _ _ (by simp [parL_len, h]), xorL_app _ _ _ _ (by simp [parL_len, h'])]
  rw [fin_xor x y h, fin_xor m l h', par0_xor x y h, par0_xor m l h']
  simp only [tu_xor, tz_xor]
  rfl
theorem wordB_wt (x m : List Bool) (h : true ∈ x) : 6 ≤ wt (wordB x m) := by
  have := free6 x h
  unfold tlW at this
  simp only [wordB, wt_app, wt_cons, wt_nil]
  omega
/-- distance -/
def dst (x y : List Bool) : Nat := wt (xorL x y)
theorem xorL_true : ∀ x y : List Bool, x.length = y.length → x ≠ y → true ∈ xorL x y
  | [], [], _, h => absurd rfl h
  | [], _ :: _, h, _ => by cases h
  | _ :: _, [], h, _ => by cases h
  | a :: x, b :: y, hl, h => by
    simp only [xorL, List.zipWith_cons_cons, List.mem_cons]
    by_cases hab : a = b
    · subst hab
      exact .inr (xorL_true x y (by simpa using hl) (by intro e; exact h (by rw [e])))
    · left; cases a <;> cases b <;> simp_all
theorem word_dst (x y m l : List Bool) (h : x.length = y.length) (h' : m.length = l.length) (hne : x ≠ y) : 6 ≤ dst (wordB x m) (wordB y l) := by
  unfold dst
  rw [← wordB_xor x y m l h h']
  exact wordB_wt _ _ (xorL_true x y h hne)
end Go.Proofs.Ytpdalbckmfadbaa

