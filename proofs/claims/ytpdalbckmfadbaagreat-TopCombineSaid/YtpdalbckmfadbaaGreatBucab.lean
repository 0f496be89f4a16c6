/-
  Bundle of the texts L M N V O W X Y Za Zb. Conditions: none.
-/
import Derived.Test.YtpdalbckmfadbaaGreatBucaa
import Derived.Deep.RegionHeld3
import Derived.OwnWalk
import Derived.Laws.ResultCell
import Derived.Deep.DeepCutAuto
import Derived.Laws.BytesArg
namespace Go.Proofs.YtpdalbckmfadbaaGreat
open Go.RowKit
set_option linter.unusedVariables false
/-- An encoder in block o: three bits and its parity row. -/
structure EncSt (base : Nat) (w : World) (o : Nat) (a b c : Bool) (A : Option Addr) (n cp : Nat) (ps : List Bool) : Prop where
  obj : Ownv 176 w base (some ⟨o, 0, none⟩) 4 4 [.int .i64 (ib a), .int .i64 (ib b), .int .i64 (ib c), .slice A n cp]
  row : Own .u8 5 w base A n cp (ps.map ib)
  ne : A ≠ none → blk A ≠ o
  le : base ≤ w.heap.size
theorem EncSt.facts {base : Nat} {w : World} {o : Nat} {a b c : Bool} {A : Option Addr} {n cp : Nat} {ps : List Bool} (h : EncSt base w o a b c A n cp ps) :
    w.cell? ⟨o, 0, none⟩ = some (.int .i64 (ib a)) ∧ w.cell? ⟨o, 1, none⟩ = some (.int .i64 (ib b)) ∧ w.cell? ⟨o, 2, none⟩ = some (.int .i64 (ib c)) ∧ w.cell? ⟨o, 3, none⟩ = some (.slice A n cp) ∧
    w.frozen? ⟨o, 0, none⟩ = false ∧ w.frozen? ⟨o, 1, none⟩ = false ∧ w.frozen? ⟨o, 2, none⟩ = false ∧ w.frozen? ⟨o, 3, none⟩ = false :=
  ⟨h.obj.rd.at_ 0 _ rfl, h.obj.rd.at_ 1 _ rfl, h.obj.rd.at_ 2 _ rfl, h.obj.rd.at_ 3 _ rfl, Ownv.frozen h.obj (by omega) 0, Ownv.frozen h.obj (by omega) 1, Ownv.frozen h.obj (by omega) 2, Ownv.frozen h.obj (by omega) 3⟩
theorem EncSt.below {base : Nat} {w w' : World} {o : Nat} {a b c : Bool} {A : Option Addr} {n cp : Nat} {ps : List Bool} (h : EncSt base w o a b c A n cp ps) (hB : Below w.heap.size w w') : EncSt base w' o a b c A n cp ps :=
  ⟨h.obj.below hB, Ownv.below h.row hB, h.ne, Nat.le_trans h.le hB.size⟩
theorem EncSt.alloc {base : Nat} {w : World} {o : Nat} {a b c : Bool} {A : Option Addr} {n cp : Nat} {ps : List Bool} (h : EncSt base w o a b c A n cp ps) (x : Obj) : EncSt base (w.alloc x) o a b c A n cp ps :=
  ⟨h.obj.alloc x, Ownv.alloc h.row x, h.ne, by have := h.le; simp; omega⟩
theorem EncSt.put {base : Nat} {w : World} {o : Nat} {a b c : Bool} {A : Option Addr} {n cp : Nat} {ps : List Bool} (h : EncSt base w o a b c A n cp ps) (a' b' c' : Bool) :
    EncSt base (((w.setCell ⟨o, 0, none⟩ (.int .i64 (ib a'))).setCell ⟨o, 1, none⟩ (.int .i64 (ib b'))).setCell ⟨o, 2, none⟩ (.int .i64 (ib c'))) o a' b' c' A n cp ps ∧
      Below base w (((w.setCell ⟨o, 0, none⟩ (.int .i64 (ib a'))).setCell ⟨o, 1, none⟩ (.int .i64 (ib b'))).setCell ⟨o, 2, none⟩ (.int .i64 (ib c'))) := by
  have hb : base ≤ o := (Ownv.blk_ge h.obj (by omega)).1
  have s0 := Ownv.set_ h.obj (j := 0) (by omega) (.int .i64 (ib a'))
  have s1 := Ownv.set_ s0.1 (j := 1) (by omega) (.int .i64 (ib b'))
  have s2 := Ownv.set_ s1.1 (j := 2) (by omega) (.int .i64 (ib c'))
  have hn : A ≠ none → some (blk A) ≠ some o := fun hA he => h.ne hA (Option.some.inj he)
  have r0 := Ownv.grown h.row s0.2 hn
  have r1 := Ownv.grown r0 s1.2 hn
  have r2 := Ownv.grown r1 s2.2 hn
  have g : ∀ {W W' : World}, Below base w W → W.grownBy W' (some o) → Below base w W' := fun hB hg => hB.grown hg (Nat.le_trans h.le hB.size) (fun k hk => by injection hk with hk; omega)
  have g2 := g (g (g (Below.refl base w) s0.2) s1.2) s2.2
  exact ⟨⟨s2.1, r2, h.ne, Nat.le_trans h.le g2.size⟩, g2⟩
/-- Rows of different element types lie in different blocks. -/
theorem own_tag_ne {e e' : TypeId} {w : World} {base base' : Nat} {A B : Option Addr} {n c m d : Nat} {vs us : List Value} (h : Ownv e w base A n c vs) (h' : Ownv e' w base' B m d us) (he : e ≠ e') (hA : A ≠ none) (hB : B ≠ none) : blk A ≠ blk B := by
  obtain ⟨_, h2⟩ := h.cases
  obtain ⟨_, h2'⟩ := h'.cases
  rcases h2 with ⟨rfl, _⟩ | ⟨g, cur, rfl, _, hh, _⟩
  · exact absurd rfl hA
  · rcases h2' with ⟨rfl, _⟩ | ⟨g', cur', rfl, _, hh', _⟩
    · exact absurd rfl hB
    · intro hg
      have hg : g = g' := hg
      subst hg
      rw [hh] at hh'
      injection hh' with h3
      injection h3 with _ h4
      exact he h4
theorem Ownv.blk_of {e : TypeId} {w : World} {base : Nat} {A : Option Addr} {n c : Nat} {vs : List Value} (h : Ownv e w base A n c vs) (hA : A ≠ none) : base ≤ blk A ∧ blk A < w.heap.size := by
  obtain ⟨hl, h2⟩ := h.cases
  rcases h2 with ⟨rfl, rfl, rfl⟩ | ⟨g, cur, rfl, hb, hh, hnc, hcm, hs, ht⟩
  · exact absurd rfl hA
  · exact ⟨hb, (Array.getElem?_eq_some_iff.1 hh).1⟩
set_option maxRecDepth 100000 in
set_option maxHeartbeats 300000 in
theorem takes_any (base o : Nat) (a b c x : Bool) (A : Option Addr) (n cp : Nat) (ps : List Bool) (w : World) (h : EncSt base w o a b c A n cp ps) (hn : n ≤ 100000) :
    Calls Tryz.prog 115 #[.pointer (some ⟨o, 0, none⟩), .int .i64 (ib x)] w fun e w' => e = .returned (.int .i64 (ib (x ^^ b ^^ c ^^ a ^^ c))) ∧ (∃ A' cp', EncSt base w' o (x ^^ b ^^ c) a b A' (n + 1) cp' (ps ++ [x ^^ b ^^ c ^^ a ^^ c])) ∧ Below base w w' := by
  obtain ⟨c0, c1, c2, c3, -, -, -, -⟩ := h.facts
  have hs := fun W => Lib.hid (step_any a b c x W)
  generalize (x ^^ b ^^ c) = a' at *
  generalize (a' ^^ a ^^ c) = p at *
  unfold regV at hs
  go_enter Tryz.func115, Tryz.ntmps115
  go_wp2_with fail
  refine (hs _).out.mono ?_
  rintro e w1 ⟨rfl, hB1⟩
  have h1 := (h.below hB1).alloc (.cells #[.int .i64 (ib a'), .int .i64 (ib a), .int .i64 (ib b)] 174)
  obtain ⟨d0, d1, d2, d3, f0, f1, f2, f3⟩ := h1.facts
  have HP := Lib.hid (h1.put a' a b)
  have HLE := Lib.hid h.le
  have HNE : Hid (some (blk (some ⟨o, 0, none⟩)) = (Value.slice A n cp).ownBlock → False) := Lib.hid (fun he => by
    rcases A with _ | A
    · simp [Value.ownBlock] at he
    · have h3 := (Ownv.cases h.row).2
      rcases h3 with ⟨h4, _⟩ | ⟨g, cur, h4, _⟩
      · cases h4
      · cases h4
        refine h.ne (by simp) ?_
        simp [Value.ownBlock] at he
        exact he.symm)
  clear c0 c1 c2 c3 h1 h hs
  have hp0 : 0 ≤ ib p := by cases p <;> decide
  have hp1 : ib p ≤ 1 := by cases p <;> decide
  obtain ⟨ip, hip⟩ : ∃ ip, ib p = ip := ⟨_, rfl⟩
  rw [hip] at hp0 hp1 ⊢
  have HSZ : Hid (((((w1.alloc (.cells #[.int .i64 (ib a'), .int .i64 (ib a), .int .i64 (ib b)] 174)).setCell ⟨o, 0, none⟩ (.int .i64 (ib a'))).setCell ⟨o, 1, none⟩ (.int .i64 (ib a))).setCell ⟨o, 2, none⟩ (.int .i64 (ib b))).heap.size = w1.heap.size + 1) := Lib.hid (by simp)
  go_wp2_with (at_builtin; refine list_of rfl fun K hK => wp_app1 _ _ 22 rfl el26 rfl (.int .u8 ip) (by rw [HSZ.out]; rfl) rfl HP.out.1.row (by omega) (by omega) HP.out.1.le ?_; intro A' c' w' hO' hg; have hobj := Ownv.grown HP.out.1.obj hg (fun _ he => HNE.out he); have e3 : w'.cell? ⟨o, 3, none⟩ = some (.slice A n cp) := hobj.rd.at_ 3 _ rfl; have e3f : w'.frozen? ⟨o, 3, none⟩ = false := Ownv.frozen hobj (by omega) 3; refine hK _ _ ?_; clear hK K)
  go_ret
  have hb : base ≤ o := (Ownv.blk_ge hobj (by omega)).1
  have s3 := Ownv.set_ hobj (j := 3) (by omega) (.slice A' (n + 1) c')
  have hB2 : Below base w w1 := hB1.mono HLE.out
  have hB3 : Below base w w' := ((hB2.alloc (Nat.le_trans HLE.out hB1.size) _).trans HP.out.2).grown hg (by have := HP.out.1.le; exact this) (fun k hk => Ownv.ob' HP.out.1.row hk)
  refine ⟨ret_int hip.symm, ⟨A', c', s3.1, ?_, fun hA => own_tag_ne hO' hobj (by decide) hA (by simp), ?_⟩, ?_⟩
  · rw [List.map_append]
    exact Ownv.grown (Own.of_eq hO' rfl (by simp [hip])) s3.2 (fun hA he => own_tag_ne hO' hobj (by decide) hA (by simp) (Option.some.inj he))
  · exact Nat.le_trans (Nat.le_trans HLE.out hB3.size) s3.2.size
  · exact hB3.grown s3.2 (Nat.le_trans HLE.out hB3.size) (fun k hk => by injection hk with hk; rw [← hk]; exact hb)
end Go.Proofs.YtpdalbckmfadbaaGreat

namespace Go.Proofs.YtpdalbckmfadbaaGreat
open Go.RowKit
set_option linter.unusedVariables false
def ValidB (xs : List Int) : Bool := xs.all (fun x => decide (x ≤ 1))
theorem validB_f {xs : List Int} {j : Nat} (hj : j < xs.length) (h : 1 < gi xs j) : ValidB xs = false := by
  rw [Bool.eq_false_iff]; intro hh
  have := all_gi.1 hh j hj
  simp at this; omega
theorem validB_t {xs : List Int} (h : ∀ q, q < xs.length → gi xs q ≤ 1) : ValidB xs = true := all_gi.2 fun j hj => by simpa using h j hj
theorem inv1_any (b : Int) (w : World) : Calls Tryz.prog 114 #[.int .u8 b] w fun e w' => e = .returned (.bool (decide (1 < b))) ∧ w = w' := by
  go_enter Tryz.func114, Tryz.ntmps114
  go_wp2
  go_ret
  exact ⟨rfl, rfl⟩
def IdxInv (n : Nat) (xs : List Int) (i : Value) : Prop := ∃ j : Nat, j ≤ n ∧ i = .int .i64 j ∧ ∀ q, q < j → gi xs q ≤ 1
def IdxPost (xs : List Int) (w : World) (e : Ending) (w' : World) : Prop := ∃ r : Int, e = .returned (.int .i64 r) ∧ (0 ≤ r ↔ ValidB xs = false) ∧ w = w'
set_option maxHeartbeats 400000 in
theorem idx_any (A : Option Addr) (n c : Nat) (xs : List Int) (w : World) (h : Rd .u8 w A n c xs) :
    Calls Tryz.prog 82 #[.slice A n c, .func (.func 114) #[] #[]] w (IdxPost xs w) := by
  have hbd := h.bd.1
  go_enter Tryz.func82, Tryz.ntmps82
  go_wp2
  go_loop [8] (fun i => IdxInv n xs i) (fun i => n - (intOf i).toNat)
  case atStart => exact ⟨0, by omega, rfl, by intro q hq; omega⟩
  case round =>
    obtain ⟨j, hj, rfl, hv⟩ := hrel
    by_cases hlt : j < n
    · have hc := Rd.cell h hlt
      have hix := fun W => Rdv.ix h el26 hlt .i64 W
      have HV := Lib.hid hv; clear hv
      by_cases h1 : gi xs j ≤ 1
      · have h1' : decide (1 < gi xs j) = false := by simp; omega
        go_wp2_with (go_at_call 114; refine (inv1_any _ _).mono ?_; rintro e w' ⟨rfl, rfl⟩)
        go_round
        case rel => exact ⟨j + 1, by omega, by go_num, fun q hq => lt_succ_cases HV.out h1 q hq⟩
        case measure => simp [intOf]; omega
      · have h1' : decide (1 < gi xs j) = true := by simp; omega
        have hf := Lib.hid (validB_f (by rw [h.len]; exact hlt) (by omega : 1 < gi xs j))
        go_wp2_with (go_at_call 114; refine (inv1_any _ _).mono ?_; rintro e w' ⟨rfl, rfl⟩)
        go_ret
        exact ⟨_, rfl, by rw [hf.out]; simp, rfl⟩
    · have hf := Lib.hid (validB_t (xs := xs) (by rw [h.len]; intro q hq; exact hv q (by omega)))
      go_wp2
      go_ret
      exact ⟨_, rfl, by rw [hf.out]; simp, rfl⟩
theorem contains_any (A : Option Addr) (n c : Nat) (xs : List Int) (w : World) (h : Rd .u8 w A n c xs) :
    Calls Tryz.prog 35 #[.slice A n c, .func (.func 114) #[] #[]] w fun e w' => e = .returned (.bool (!ValidB xs)) ∧ w = w' := by
  go_enter Tryz.func35, Tryz.ntmps35
  go_wp2_with (go_at_call 82; refine (idx_any A n c xs w h).mono ?_; rintro e w' ⟨r, rfl, hr, rfl⟩)
  go_ret
  refine ⟨ret_bool ?_, rfl⟩
  cases hv : ValidB xs <;> simp_all
end Go.Proofs.YtpdalbckmfadbaaGreat

namespace Go.Proofs.YtpdalbckmfadbaaGreat
open Go.RowKit
set_option linter.unusedVariables false
abbrev St3 := Bool × Bool × Bool
def stp (s : St3) (x : Bool) : St3 := (x ^^ s.2.1 ^^ s.2.2, s.1, s.2.1)
def par (s : St3) (x : Bool) : Bool := x ^^ s.2.1 ^^ s.2.2 ^^ s.1 ^^ s.2.2
def parL (s : St3) : List Bool → List Bool
  | [] => []
  | x :: l => par s x :: parL (stp s x) l
def s0 : St3 := (false, false, false)
theorem parL_snoc (l : List Bool) (x : Bool) : ∀ s, parL s (l ++ [x]) = parL s l ++ [par (l.foldl stp s) x] := by
  induction l with
  | nil => intro s; rfl
  | cons y l ih => intro s; simp only [List.cons_append, parL, List.foldl_cons, ih]
theorem parL_len (l : List Bool) : ∀ s, (parL s l).length = l.length := by
  induction l with
  | nil => intro s; rfl
  | cons y l ih => intro s; simp [parL, ih]
def EncInv (w : World) (o : Nat) (bs : List Bool) (i : Value) (wr : World) : Prop :=
  ∃ (j : Nat) (A : Option Addr) (cp : Nat), j ≤ bs.length ∧ i = .int .i64 j ∧ EncSt w.heap.size wr o ((bs.take j).foldl stp s0).1 ((bs.take j).foldl stp s0).2.1 ((bs.take j).foldl stp s0).2.2 A j cp (parL s0 (bs.take j)) ∧ Below w.heap.size w wr
theorem gi_ib (bs : List Bool) (j : Nat) (h : j < bs.length) : gi (bs.map ib) j = ib bs[j] := by
  rw [gi_eq _ _ (by simpa using h)]; simp
theorem valid_ib (bs : List Bool) : ValidB (bs.map ib) = true := validB_t fun q hq => by
  rw [gi_ib _ _ (by simpa using hq)]; cases bs[q]'(by simpa using hq) <;> decide
set_option maxRecDepth 100000 in
set_option maxHeartbeats 600000 in
theorem tencode_any (A : Option Addr) (n c : Nat) (bs : List Bool) (w : World) (h : Rd .u8 w A n c (bs.map ib)) (hn : n ≤ 100000) :
    Calls Tryz.prog 69 #[.slice A n c] w fun e w' => ∃ A' c', e = .returned (.tuple #[.slice A' n c', .int .i64 (stI (bs.foldl stp s0).1 (bs.foldl stp s0).2.1 (bs.foldl stp s0).2.2), .int .i64 0]) ∧ Own .u8 5 w' w.heap.size A' n c' ((parL s0 bs).map ib) ∧ Below w.heap.size w w' := by
  have hl : bs.length = n := by have := h.len; simpa using this
  have hbd := h.bd.1
  have hv := valid_ib bs
  go_enter Tryz.func69, Tryz.ntmps69
  go_wp2_with (go_at_call 35; refine (contains_any A n c _ w h).mono ?_; rintro e w' ⟨rfl, rfl⟩)
  have hob : Ownv 176 (w.alloc (.cells #[.int .i64 0, .int .i64 0, .int .i64 0, .slice none 0 0] 176)) w.heap.size (some ⟨w.heap.size, 0, none⟩) 4 4 [.int .i64 (ib false), .int .i64 (ib false), .int .i64 (ib false), .slice none 0 0] :=
    Ownv.lit w #[.int .i64 0, .int .i64 0, .int .i64 0, .slice none 0 0] 176 rfl (Nat.le_refl _) (by show 4 ≤ maxLen; unfold maxLen; omega)
  have hst : EncSt w.heap.size (w.alloc (.cells #[.int .i64 0, .int .i64 0, .int .i64 0, .slice none 0 0] 176)) w.heap.size false false false none 0 0 [] := ⟨hob, Own.nilv _ _ _ _, fun h => absurd rfl h, by simp⟩
  have hB0 : Below w.heap.size w (w.alloc (.cells #[.int .i64 0, .int .i64 0, .int .i64 0, .slice none 0 0] 176)) := (Below.refl _ w).alloc (Nat.le_refl _) _
  have HH := Lib.hid h
  have HL := Lib.hid hl
  clear hob h hl
  go_loopw [12] (fun i wr => EncInv w w.heap.size bs i wr) (fun i _ => n - (intOf i).toNat)
  case atStart => exact ⟨0, none, 0, Nat.zero_le _, rfl, hst, hB0⟩
  case round =>
    obtain ⟨j, A1, cp, hj, rfl, hst, hB⟩ := hrel
    rw [HL.out] at hj
    by_cases hlt : j < n
    · have hj' : j < bs.length := by rw [HL.out]; exact hlt
      have hx := Rdv.below HH.out hB
      have hix := fun W => Rdv.ix hx el26 hlt .i64 W
      have hcell := Rd.cell hx hlt
      rw [gi_ib _ _ hj'] at hcell
      have ht : bs.take (j + 1) = bs.take j ++ [bs[j]] := by rw [List.take_add_one, List.getElem?_eq_getElem hj']; rfl
      have e1 : (bs.take (j + 1)).foldl stp s0 = stp ((bs.take j).foldl stp s0) bs[j] := by rw [ht, List.foldl_append]; rfl
      have e2 : parL s0 (bs.take (j + 1)) = parL s0 (bs.take j) ++ [par ((bs.take j).foldl stp s0) bs[j]] := by rw [ht, parL_snoc]
      have E1 := Lib.hid e1; have E2 := Lib.hid e2
      have HST := Lib.hid hst
      have hb0 : 0 ≤ ib bs[j] := by cases bs[j] <;> decide
      have hb1 : ib bs[j] ≤ 1 := by cases bs[j] <;> decide
      clear ht e1 e2 hst
      generalize (bs.take j).foldl stp s0 = s at *
      generalize parL s0 (bs.take j) = ps at *
      generalize bs[j] = x at *
      go_wp2_with (go_at_call 115; refine (takes_any w.heap.size w.heap.size s.1 s.2.1 s.2.2 x A1 j cp ps _ HST.out (by omega)).mono ?_; rintro e w4 ⟨rfl, ⟨A2, cp2, hst2⟩, hB2⟩)
      refine ⟨⟨j + 1, A2, cp2, by omega, by go_num, ?_, hB.trans hB2⟩, by simp [intOf]; omega⟩
      rw [E1.out, E2.out]
      exact hst2
    · obtain rfl : j = n := by omega
      rw [← HL.out, List.take_length, HL.out] at hst
      have HST := Lib.hid hst
      obtain ⟨c0, c1, c2, c3, -, -, -, -⟩ := hst.facts
      clear hst
      generalize hs : bs.foldl stp s0 = s at *
      have HS := Lib.hid hs
      clear hs
      have hs60 := fun W => Lib.hid (state_any s.1 s.2.1 s.2.2 W)
      unfold regV at hs60
      go_wp2
      go_region_held3 (fun W => W.cell? ⟨w.heap.size, 0, none⟩ = some (.int .i64 (ib s.1)) ∧ W.cell? ⟨w.heap.size, 1, none⟩ = some (.int .i64 (ib s.2.1)) ∧ W.cell? ⟨w.heap.size, 2, none⟩ = some (.int .i64 (ib s.2.2)) ∧ W.cell? ⟨w.heap.size, 3, none⟩ = some (.slice A1 j cp)) (first | exact ⟨c0, c1, c2, c3⟩ | exact ⟨m0, m1, m2, m3⟩)
        (first
          | (go_at_call 116; refine (hs60 _).out.mono ?_; rintro e w5 ⟨rfl, hB5⟩; obtain ⟨m0, m1, m2, m3, -, -, -, -⟩ := (HST.out.below ((Below.refl _ _).drew.trans hB5)).facts))
      go_wp2
      go_ret3
      rw [HS.out]
      have hq := (Below.refl wr.heap.size wr).drew.trans hB5
      exact ⟨A1, cp, rfl, (HST.out.below hq).row, hB.trans (hq.mono hB.size)⟩
theorem tencode_bad (A : Option Addr) (n c : Nat) (xs : List Int) (w : World) (h : Rd .u8 w A n c xs) (hv : ValidB xs = false) :
    Calls Tryz.prog 69 #[.slice A n c] w fun e w' => e = .returned (.tuple #[.slice none 0 0, .int .i64 0, .int .i64 3]) ∧ w = w' := by
  go_enter Tryz.func69, Tryz.ntmps69
  go_wp2_with (go_at_call 35; refine (contains_any A n c _ w h).mono ?_; rintro e w' ⟨rfl, rfl⟩)
  go_ret3
  exact ⟨rfl, rfl⟩
end Go.Proofs.YtpdalbckmfadbaaGreat

namespace Go.Proofs.YtpdalbckmfadbaaGreat
open Go.RowKit
set_option linter.unusedVariables false
def tlS (a b c : Bool) (j : Nat) : St3 := if j = 0 then (a, b, c) else if j = 1 then (false, a, b) else if j = 2 then (false, false, a) else (false, false, false)
def tlU (a b c : Bool) (j : Nat) : Bool := if j = 0 then (b ^^ c) else if j = 1 then (a ^^ b) else a
def tlZ (a b c : Bool) (j : Nat) : Bool := if j = 0 then (a ^^ c) else if j = 1 then b else a
theorem tl_step (a b c : Bool) (j : Nat) (h : j < 3) : stp (tlS a b c j) (tlU a b c j) = tlS a b c (j + 1) ∧ par (tlS a b c j) (tlU a b c j) = tlZ a b c j ∧ ((tlS a b c j).2.1 ^^ (tlS a b c j).2.2) = tlU a b c j := by
  rcases (by omega : j = 0 ∨ j = 1 ∨ j = 2) with rfl | rfl | rfl <;> cases a <;> cases b <;> cases c <;> decide
def tu (s : St3) (j : Nat) : Bool := tlU s.1 s.2.1 s.2.2 j
def tz (s : St3) (j : Nat) : Bool := tlZ s.1 s.2.1 s.2.2 j
def fin (bs : List Bool) : St3 := bs.foldl stp s0
def xorL (x y : List Bool) : List Bool := List.zipWith xor x y
/-- the number of ones -/
def wt (l : List Bool) : Nat := l.count true
def w1 (b : Bool) : Nat := if b then 1 else 0
/-- The word of a turbo code over bits. -/
def wordB (x m : List Bool) : List Bool :=
  x ++ [tu (fin x) 0, tz (fin x) 1, tu (fin m) 0, tz (fin m) 1] ++ (parL s0 x ++ [tz (fin x) 0, tu (fin x) 2, tz (fin m) 0, tu (fin m) 2]) ++ (parL s0 m ++ [tu (fin x) 1, tz (fin x) 2, tu (fin m) 1, tz (fin m) 2])
theorem wordB_len (x m : List Bool) (h : m.length = x.length) : (wordB x m).length = 3 * (x.length + 4) := by
  simp only [wordB, List.length_append, parL_len, List.length_cons, List.length_nil, h]; omega
/-- distance -/
def dst (x y : List Bool) : Nat := wt (xorL x y)
end Go.Proofs.YtpdalbckmfadbaaGreat

namespace Go.Proofs.YtpdalbckmfadbaaGreat
open Go.RowKit
set_option linter.unusedVariables false
theorem Ownv.keepB {e : TypeId} {w w' : World} {base g n c : Nat} {vs : List Value} {B : Nat} (h : Ownv e w base (some ⟨g, 0, none⟩) n c vs) (hB : Below B w w') (hg : g < B) : Ownv e w' base (some ⟨g, 0, none⟩) n c vs := by
  obtain ⟨h1, h2⟩ := h.ow
  refine ⟨h1, ?_⟩
  rcases h2 with h2 | ⟨g', cap, cur, h2, h3, h4, h5, h6, h7, h8⟩
  · exact .inl h2
  · refine .inr ⟨g', cap, cur, h2, h3, ?_, h5, h6, h7, h8⟩
    simp only [Value.slice.injEq, Option.some.injEq, Addr.mk.injEq] at h2
    obtain ⟨⟨rfl, _⟩, _⟩ := h2
    rw [hB.block g hg]; exact h4
/-- an array of three bytes in a block of its own, filled up to j -/
def Arr3 (w : World) (base b : Nat) (f : Nat → Bool) (j : Nat) : Prop := ∃ vs, Own .u8 61 w base (some ⟨b, 0, none⟩) 3 3 vs ∧ ∀ q, q < j → gi vs q = ib (f q)
theorem Arr3.vals {w : World} {base b : Nat} {f : Nat → Bool} (h : Arr3 w base b f 3) : Own .u8 61 w base (some ⟨b, 0, none⟩) 3 3 [ib (f 0), ib (f 1), ib (f 2)] := by
  obtain ⟨vs, h1, h2⟩ := h
  have hl := (Own.rd h1).len
  have e : vs = [ib (f 0), ib (f 1), ib (f 2)] := by
    refine ext_gi (by rw [hl]; rfl) fun q hq => ?_
    rw [hl] at hq
    rw [h2 q hq]
    rcases (by omega : q = 0 ∨ q = 1 ∨ q = 2) with rfl | rfl | rfl <;> rfl
  rwa [e] at h1
theorem results_cct {fn : Func} {p q u : Tmp} {ty ty' : TypeId} (h : fn.results = #[.cell p ty, .cell q ty', .tmp u]) (tmps : Array Value) (P : Program) (w : World) :
    (results fn tmps).run P w =
      ((asAddr (tmps.getD p undef)).run P w).andThen fun a w₁ => ((loadVar ty a).run P w₁).andThen fun v w₂ => ((asAddr (tmps.getD q undef)).run P w₂).andThen fun b w₃ => ((loadVar ty' b).run P w₃).andThen fun v' w₄ => .ok (.tuple #[v, v', tmps.getD u undef]) w₄ := by
  simp only [results, h]
  simp [Sem.run_bind, Result.andThen]
theorem results_c {fn : Func} {p : Tmp} {ty : TypeId} (h : fn.results = #[.cell p ty]) (tmps : Array Value) (P : Program) (w : World) :
    (results fn tmps).run P w = ((asAddr (tmps.getD p undef)).run P w).andThen fun a w₁ => (loadVar ty a).run P w₁ := by
  simp only [results, h]
  simp [Sem.run_bind]
/-- A row of the call's own whole. -/
theorem Ownv.row {e : TypeId} {w : World} {base b n : Nat} {vs : List Value} (h : Ownv e w base (some ⟨b, 0, none⟩) n n vs) : w.heap[b]? = some (.cells vs.toArray e (0, 0)) := by
  obtain ⟨_, h2⟩ := Ownv.cases h
  rcases h2 with ⟨h3, _⟩ | ⟨g, cur, h3, hb, hh, hnc, hcm, hs, ht⟩
  · cases h3
  · cases h3
    have : cur.toList = vs := by
      rw [← List.take_of_length_le (l := cur.toList) (i := n) (by simp [hs])]; exact ht
    rw [hh, show cur = vs.toArray from by rw [← this]]
theorem load_u8x3 {w : World} {base b : Nat} {x y z : Int} (h : Own .u8 61 w base (some ⟨b, 0, none⟩) 3 3 [x, y, z]) : (loadVar 61 ⟨b, 0, none⟩).run Tryz.prog w = .ok (.agg #[.int .u8 x, .int .u8 y, .int .u8 z]) w :=
  run_loadVar_row (P := Tryz.prog) w b 61 61 _ (0, 0) _ (Ownv.row h) Tryz.underlying61 rfl (by kernel_rfl)
theorem Own.set3 {k : IntKind} {e : TypeId} {w : World} {base b : Nat} {vs : List Int} (h : Own k e w base (some ⟨b, 0, none⟩) 3 3 vs) (x y z : Int) :
    Own k e (((w.setCell ⟨b, 0, none⟩ (.int k x)).setCell ⟨b, 1, none⟩ (.int k y)).setCell ⟨b, 2, none⟩ (.int k z)) base (some ⟨b, 0, none⟩) 3 3 [x, y, z] ∧ w.grownBy (((w.setCell ⟨b, 0, none⟩ (.int k x)).setCell ⟨b, 1, none⟩ (.int k y)).setCell ⟨b, 2, none⟩ (.int k z)) (some b) := by
  have h0 := Own.set_ h (j := 0) (by omega) x
  have h1 := Own.set_ h0.1 (j := 1) (by omega) y
  have h2 := Own.set_ h1.1 (j := 2) (by omega) z
  simp only [adr_some, Nat.zero_add] at h0 h1 h2
  have hl := (Own.rd h).len
  refine ⟨?_, (h0.2.trans h1.2).trans h2.2⟩
  have e1 : ((vs.set 0 x).set 1 y).set 2 z = [x, y, z] := by
    match vs, hl with
    | [p, q, r], _ => rfl
  rw [← e1]; exact h2.1
def TailInv (a b c : Bool) (w : World) (o : Nat) (i : Value) (wr : World) : Prop :=
  ∃ (j : Nat) (A : Option Addr) (cp : Nat) (ps : List Bool), j ≤ 3 ∧ i = .int .i64 j ∧ Arr3 wr w.heap.size w.heap.size (tlU a b c) j ∧ Arr3 wr w.heap.size (w.heap.size + 1) (tlZ a b c) j ∧
    EncSt (w.heap.size + 2) wr o (tlS a b c j).1 (tlS a b c j).2.1 (tlS a b c j).2.2 A j cp ps ∧ Below w.heap.size w wr
theorem tail_next (a b c : Bool) (w w2 w4 : World) (o j : Nat) (hj : j < 3) (vu vz : List Int) (A4 : Option Addr) (cp4 : Nat) (ps : List Bool) (s' : St3) (hs : tlS a b c (j + 1) = s')
    (hU : Own .u8 61 w2 w.heap.size (some ⟨w.heap.size, 0, none⟩) 3 3 vu) (hqu : ∀ q, q < j → gi vu q = ib (tlU a b c q))
    (hZ : Own .u8 61 w2 w.heap.size (some ⟨w.heap.size + 1, 0, none⟩) 3 3 vz) (hqz : ∀ q, q < j → gi vz q = ib (tlZ a b c q))
    (hB2 : Below w.heap.size w w2) (hB4 : Below (w.heap.size + 2) w2 w4) (hS4 : EncSt (w.heap.size + 2) w4 o s'.1 s'.2.1 s'.2.2 A4 (j + 1) cp4 ps) (iu iz : Int) (hiu : ib (tlU a b c j) = iu) (hiz : ib (tlZ a b c j) = iz) :
    TailInv a b c w o (.int .i64 ((j + 1 : Nat) : Int)) ((w4.setCell (adr (some ⟨w.heap.size, 0, none⟩) j) (.int .u8 iu)).setCell (adr (some ⟨w.heap.size + 1, 0, none⟩) j) (.int .u8 iz)) := by
  have u1 := Ownv.keepB hU hB4 (by omega)
  have z1 := Ownv.keepB hZ hB4 (by omega)
  have u2 := Own.set_ u1 hj iu
  have z2 : Own .u8 61 _ w.heap.size (some ⟨w.heap.size + 1, 0, none⟩) 3 3 vz := Ownv.grown z1 u2.2 (fun _ he => by have := Option.some.inj he; simp [blk] at this)
  have z3 := Own.set_ z2 hj iz
  have u3 : Own .u8 61 _ w.heap.size (some ⟨w.heap.size, 0, none⟩) 3 3 (vu.set j iu) := Ownv.grown u2.1 z3.2 (fun _ he => by have := Option.some.inj he; simp [blk] at this)
  have hlu := (Own.rd hU).len
  have hlz := (Own.rd hZ).len
  have hbw := hB2.size
  have h4 : Below w.heap.size w w4 := hB2.trans (hB4.mono (by omega))
  have h5 := h4.grown u2.2 h4.size (fun k hk => by have := Option.some.inj hk; simp [blk] at this; omega)
  have h6 := h5.grown z3.2 h5.size (fun k hk => by have := Option.some.inj hk; simp [blk] at this; omega)
  have sg : ∀ {W W' : World} {g : Nat}, g < w.heap.size + 2 → EncSt (w.heap.size + 2) W o s'.1 s'.2.1 s'.2.2 A4 (j + 1) cp4 ps → W.grownBy W' (some g) → EncSt (w.heap.size + 2) W' o s'.1 s'.2.1 s'.2.2 A4 (j + 1) cp4 ps := by
    intro W W' g hg h hgr
    have ho := (Ownv.blk_ge h.obj (by omega)).1
    simp [blk] at ho
    exact ⟨Ownv.grown h.obj hgr (fun _ he => by have := Option.some.inj he; simp [blk] at this; omega), Ownv.grown h.row hgr (fun hA he => by have h8 := (Ownv.blk_of h.row hA).1; have := Option.some.inj he; omega), h.ne, Nat.le_trans h.le hgr.size⟩
  refine ⟨j + 1, A4, cp4, ps, by omega, rfl, ⟨_, u3, fun q hq => ?_⟩, ⟨_, z3.1, fun q hq => ?_⟩, by rw [hs]; exact sg (by simp [blk]) (sg (by simp [blk]) hS4 u2.2) z3.2, h6⟩
  · rw [gi_set _ _ _ _ (by omega)]
    by_cases e : j = q
    · subst e; rw [if_pos rfl, hiu]
    · rw [if_neg e]; exact hqu q (by omega)
  · rw [gi_set _ _ _ _ (by omega)]
    by_cases e : j = q
    · subst e; rw [if_pos rfl, hiz]
    · rw [if_neg e]; exact hqz q (by omega)
theorem stI_bd (a b c : Bool) : 0 ≤ stI a b c ∧ stI a b c < 8 := by cases a <;> cases b <;> cases c <;> decide
set_option maxRecDepth 100000 in
set_option maxHeartbeats 600000 in
theorem tail_any (a b c : Bool) (w : World) : Calls Tryz.prog 70 #[.int .i64 (stI a b c)] w fun e w' =>
    e = .returned (.tuple #[.agg #[.int .u8 (ib (tlU a b c 0)), .int .u8 (ib (tlU a b c 1)), .int .u8 (ib (tlU a b c 2))], .agg #[.int .u8 (ib (tlZ a b c 0)), .int .u8 (ib (tlZ a b c 1)), .int .u8 (ib (tlZ a b c 2))], .int .i64 0]) ∧ Below w.heap.size w w' := by
  obtain ⟨h0, h1⟩ := stI_bd a b c
  have hr := fun W => Lib.hid (regat_any a b c W)
  have hd : decide (0 ≤ stI a b c ∧ stI a b c < 8) = true := by simp; omega
  have hf := fun W => Lib.hid (fits_any (stI a b c) W)
  rw [hd] at hf
  unfold regV at hr
  go_enter Tryz.func70, Tryz.ntmps70
  go_wp2_with (first
    | (go_at_call 117; refine (hf _).out.mono ?_; rintro e w' ⟨rfl, rfl⟩)
    | (go_at_call 118; refine (hr _).out.mono ?_; rintro e w1 ⟨rfl, hB1⟩))
  have hob : Ownv 176 (w1.alloc (.cells #[.int .i64 (ib a), .int .i64 (ib b), .int .i64 (ib c), .slice none 0 0] 176)) w1.heap.size (some ⟨w1.heap.size, 0, none⟩) 4 4 [.int .i64 (ib a), .int .i64 (ib b), .int .i64 (ib c), .slice none 0 0] :=
    Ownv.lit w1 #[.int .i64 (ib a), .int .i64 (ib b), .int .i64 (ib c), .slice none 0 0] 176 rfl (Nat.le_refl _) (by show 4 ≤ maxLen; unfold maxLen; omega)
  have hsz : w.heap.size + 2 ≤ w1.heap.size := by have := hB1.size; simpa using this
  have hst : EncSt (w.heap.size + 2) (w1.alloc (.cells #[.int .i64 (ib a), .int .i64 (ib b), .int .i64 (ib c), .slice none 0 0] 176)) w1.heap.size a b c none 0 0 [] := ⟨hob.mono hsz, Own.nilv _ _ _ _, fun h => absurd rfl h, by simp; omega⟩
  have hA : ∀ f, Arr3 (w1.alloc (.cells #[.int .i64 (ib a), .int .i64 (ib b), .int .i64 (ib c), .slice none 0 0] 176)) w.heap.size w.heap.size f 0 := fun f =>
    ⟨[0, 0, 0], Ownv.alloc (Ownv.below (Ownv.alloc (Own.of_eq (Ownv.lit w #[.int .u8 0, .int .u8 0, .int .u8 0] 61 rfl (Nat.le_refl _) (by show 3 ≤ maxLen; unfold maxLen; omega)) rfl rfl) _) hB1) _, by intro q hq; omega⟩
  have hA2 : ∀ f, Arr3 (w1.alloc (.cells #[.int .i64 (ib a), .int .i64 (ib b), .int .i64 (ib c), .slice none 0 0] 176)) w.heap.size (w.heap.size + 1) f 0 := fun f =>
    ⟨[0, 0, 0], Ownv.alloc (Ownv.below (Own.of_eq (Ownv.lit (w.alloc _) #[.int .u8 0, .int .u8 0, .int .u8 0] 61 (by simp) (by simp) (by show 3 ≤ maxLen; unfold maxLen; omega)) rfl rfl) hB1) _, by intro q hq; omega⟩
  have hB0 : Below w.heap.size w (w1.alloc (.cells #[.int .i64 (ib a), .int .i64 (ib b), .int .i64 (ib c), .slice none 0 0] 176)) := ((((Below.refl _ w).alloc (Nat.le_refl _) _).alloc (by simp) _).trans (hB1.mono (by simp; omega))).alloc (by omega) _
  go_loopw [16] (fun i wr => TailInv a b c w w1.heap.size i wr) (fun i _ => 3 - (intOf i).toNat)
  case atStart => exact ⟨0, none, 0, [], by omega, rfl, hA _, hA2 _, hst, hB0⟩
  case round =>
    obtain ⟨j, A, cp, ps, hj, rfl, hU, hZ, hst', hB⟩ := hrel
    clear hst hA hA2 hB0 hob hf hr
    generalize w1.heap.size = o at *
    by_cases hlt : j < 3
    · obtain ⟨q1, q2, q3⟩ := tl_step a b c j hlt
      have hub : 0 ≤ ib (tlU a b c j) ∧ ib (tlU a b c j) ≤ 1 := by cases tlU a b c j <;> decide
      have hzb : 0 ≤ ib (tlZ a b c j) ∧ ib (tlZ a b c j) ≤ 1 := by cases tlZ a b c j <;> decide
      have hwu : IntKind.u8.wrap (ib (tlU a b c j)) = ib (tlU a b c j) := by cases tlU a b c j <;> decide
      have hwz : IntKind.u8.wrap (ib (tlZ a b c j)) = ib (tlZ a b c j) := by cases tlZ a b c j <;> decide
      have Q1 := Lib.hid q1
      have Q2 := Lib.hid q2
      clear q1 q2
      generalize tlS a b c j = s at *
      generalize hs' : tlS a b c (j + 1) = s' at *
      have HE := fun W => Lib.hid (ending_any s.1 s.2.1 s.2.2 W)
      rw [q3] at HE
      clear q3
      have HSZ := Lib.hid hst'.le
      obtain ⟨vu, hOu, hqu⟩ := hU
      obtain ⟨vz, hOz, hqz⟩ := hZ
      have HT : ∀ W, EncSt (w.heap.size + 2) W o s.1 s.2.1 s.2.2 A j cp ps → Hid (Calls Tryz.prog 115 #[.pointer (some ⟨o, 0, none⟩), .int .i64 (ib (tlU a b c j))] W fun e w' => e = .returned (.int .i64 (ib (tlZ a b c j))) ∧ (∃ A' cp', EncSt (w.heap.size + 2) w' o s'.1 s'.2.1 s'.2.2 A' (j + 1) cp' (ps ++ [tlZ a b c j])) ∧ Below (w.heap.size + 2) W w') := fun W hW => Lib.hid (by
        have := takes_any (w.heap.size + 2) o s.1 s.2.1 s.2.2 (tlU a b c j) A j cp ps W hW (by omega)
        have e1 : (tlU a b c j ^^ s.2.1 ^^ s.2.2 ^^ s.1 ^^ s.2.2) = tlZ a b c j := Q2.out
        rw [e1] at this
        refine this.mono ?_
        rintro e w' ⟨h1, ⟨A', cp', h2⟩, h3⟩
        refine ⟨h1, ⟨A', cp', ?_⟩, h3⟩
        have e2 : s' = (tlU a b c j ^^ s.2.1 ^^ s.2.2, s.1, s.2.1) := Q1.out.symm
        rw [e2]; exact h2)
      have HU := Lib.hid hqu
      have HZ := Lib.hid hqz
      have HST := Lib.hid hst'
      obtain ⟨c0, c1, c2, c3, f0, f1, f2, f3⟩ := hst'.facts
      have HQ := Lib.hid hs'
      clear hqu hqz hst' hs'
      generalize hiu : ib (tlU a b c j) = iu at *
      generalize hiz : ib (tlZ a b c j) = iz at *
      have HIU := Lib.hid hiu
      have HIZ := Lib.hid hiz
      have HB := Lib.hid hB
      clear hiu hiz hB
      unfold regV at HE
      rcases (by omega : j = 0 ∨ j = 1 ∨ j = 2) with rfl | rfl | rfl
      all_goals try simp only [Int.ofNat_zero, Int.ofNat_one, Int.cast_ofNat_Int]
      · have hcu := Rd.cell (Own.rd hOu) hlt
        have hcz := Rd.cell (Own.rd hOz) hlt
        have hfu := Ownv.frozen hOu (by omega) 0
        have hfz := Ownv.frozen hOz (by omega) 0
        simp only [adr_some, Nat.zero_add] at hcu hcz hfu hfz
        go_wp2_with (go_at_call 119; refine (HE _).out.mono ?_; rintro e w2 ⟨rfl, hB2⟩)
        have HB2 := Lib.hid (HB.out.trans (hB2.mono HB.out.size))
        have hU2 := Ownv.below hOu hB2
        have hZ2 := Ownv.below hOz hB2
        have hS2 := HST.out.below hB2
        have HU2 := Lib.hid hU2
        have HZ2 := Lib.hid hZ2
        have HS2 := Lib.hid hS2
        have hcu2 := Rd.cell (Own.rd hU2) hlt
        have hcz2 := Rd.cell (Own.rd hZ2) hlt
        have hfu2 := Ownv.frozen hU2 (by omega) 0
        have hfz2 := Ownv.frozen hZ2 (by omega) 0
        simp only [adr_some, Nat.zero_add] at hcu2 hcz2 hfu2 hfz2
        clear hU2 hZ2 hS2 hOu hOz hcu hcz hfu hfz c0 c1 c2 c3 f0 f1 f2 f3 hB2
        go_region_with (go_at_call 115; refine (HT _ ?_).out.mono ?_; exact HS2.out.below (Below.refl _ _).drew; rintro e w4 ⟨rfl, ⟨A4, cp4, hS4⟩, hB4⟩; have g1 := hB4.cell (p := ⟨w.heap.size, 0, none⟩) (by simp); have g2 := hB4.frozen (p := ⟨w.heap.size, 0, none⟩) (by simp); have g3 := hB4.cell (p := ⟨w.heap.size + 1, 0, none⟩) (by simp); have g4 := hB4.frozen (p := ⟨w.heap.size + 1, 0, none⟩) (by simp))
        have HBd := Lib.hid ((Below.refl (w.heap.size + 2) w2).drew.trans hB4)
        have HS4 := Lib.hid hS4
        clear hB4 hS4 g1 g2 g3 g4 hcu2 hcz2 hfu2 hfz2
        go_wp2
        go_roundw
        case rel => exact tail_next a b c w w2 w4 o 0 hlt vu vz A4 cp4 _ s' HQ.out HU2.out HU.out HZ2.out HZ.out HB2.out HBd.out HS4.out iu iz HIU.out HIZ.out
        case measure => simp [intOf]
      · have hcu := Rd.cell (Own.rd hOu) hlt
        have hcz := Rd.cell (Own.rd hOz) hlt
        have hfu := Ownv.frozen hOu (by omega) 1
        have hfz := Ownv.frozen hOz (by omega) 1
        simp only [adr_some, Nat.zero_add] at hcu hcz hfu hfz
        go_wp2_with (go_at_call 119; refine (HE _).out.mono ?_; rintro e w2 ⟨rfl, hB2⟩)
        have HB2 := Lib.hid (HB.out.trans (hB2.mono HB.out.size))
        have hU2 := Ownv.below hOu hB2
        have hZ2 := Ownv.below hOz hB2
        have hS2 := HST.out.below hB2
        have HU2 := Lib.hid hU2
        have HZ2 := Lib.hid hZ2
        have HS2 := Lib.hid hS2
        have hcu2 := Rd.cell (Own.rd hU2) hlt
        have hcz2 := Rd.cell (Own.rd hZ2) hlt
        have hfu2 := Ownv.frozen hU2 (by omega) 1
        have hfz2 := Ownv.frozen hZ2 (by omega) 1
        simp only [adr_some, Nat.zero_add] at hcu2 hcz2 hfu2 hfz2
        clear hU2 hZ2 hS2 hOu hOz hcu hcz hfu hfz c0 c1 c2 c3 f0 f1 f2 f3 hB2
        go_region_with (go_at_call 115; refine (HT _ ?_).out.mono ?_; exact HS2.out.below (Below.refl _ _).drew; rintro e w4 ⟨rfl, ⟨A4, cp4, hS4⟩, hB4⟩; have g1 := hB4.cell (p := ⟨w.heap.size, 1, none⟩) (by simp); have g2 := hB4.frozen (p := ⟨w.heap.size, 1, none⟩) (by simp); have g3 := hB4.cell (p := ⟨w.heap.size + 1, 1, none⟩) (by simp); have g4 := hB4.frozen (p := ⟨w.heap.size + 1, 1, none⟩) (by simp))
        have HBd := Lib.hid ((Below.refl (w.heap.size + 2) w2).drew.trans hB4)
        have HS4 := Lib.hid hS4
        clear hB4 hS4 g1 g2 g3 g4 hcu2 hcz2 hfu2 hfz2
        go_wp2
        go_roundw
        case rel => exact tail_next a b c w w2 w4 o 1 hlt vu vz A4 cp4 _ s' HQ.out HU2.out HU.out HZ2.out HZ.out HB2.out HBd.out HS4.out iu iz HIU.out HIZ.out
        case measure => simp [intOf]
      · have hcu := Rd.cell (Own.rd hOu) hlt
        have hcz := Rd.cell (Own.rd hOz) hlt
        have hfu := Ownv.frozen hOu (by omega) 2
        have hfz := Ownv.frozen hOz (by omega) 2
        simp only [adr_some, Nat.zero_add] at hcu hcz hfu hfz
        go_wp2_with (go_at_call 119; refine (HE _).out.mono ?_; rintro e w2 ⟨rfl, hB2⟩)
        have HB2 := Lib.hid (HB.out.trans (hB2.mono HB.out.size))
        have hU2 := Ownv.below hOu hB2
        have hZ2 := Ownv.below hOz hB2
        have hS2 := HST.out.below hB2
        have HU2 := Lib.hid hU2
        have HZ2 := Lib.hid hZ2
        have HS2 := Lib.hid hS2
        have hcu2 := Rd.cell (Own.rd hU2) hlt
        have hcz2 := Rd.cell (Own.rd hZ2) hlt
        have hfu2 := Ownv.frozen hU2 (by omega) 2
        have hfz2 := Ownv.frozen hZ2 (by omega) 2
        simp only [adr_some, Nat.zero_add] at hcu2 hcz2 hfu2 hfz2
        clear hU2 hZ2 hS2 hOu hOz hcu hcz hfu hfz c0 c1 c2 c3 f0 f1 f2 f3 hB2
        go_region_with (go_at_call 115; refine (HT _ ?_).out.mono ?_; exact HS2.out.below (Below.refl _ _).drew; rintro e w4 ⟨rfl, ⟨A4, cp4, hS4⟩, hB4⟩; have g1 := hB4.cell (p := ⟨w.heap.size, 2, none⟩) (by simp); have g2 := hB4.frozen (p := ⟨w.heap.size, 2, none⟩) (by simp); have g3 := hB4.cell (p := ⟨w.heap.size + 1, 2, none⟩) (by simp); have g4 := hB4.frozen (p := ⟨w.heap.size + 1, 2, none⟩) (by simp))
        have HBd := Lib.hid ((Below.refl (w.heap.size + 2) w2).drew.trans hB4)
        have HS4 := Lib.hid hS4
        clear hB4 hS4 g1 g2 g3 g4 hcu2 hcz2 hfu2 hfz2
        go_wp2
        go_roundw
        case rel => exact tail_next a b c w w2 w4 o 2 hlt vu vz A4 cp4 _ s' HQ.out HU2.out HU.out HZ2.out HZ.out HB2.out HBd.out HS4.out iu iz HIU.out HIZ.out
        case measure => simp [intOf]
    · obtain rfl : j = 3 := by omega
      have HU := Lib.hid hU.vals
      have HZ := Lib.hid hZ.vals
      have u0 := Rd.cell (Own.rd HU.out) (j := 0) (by omega)
      have u1 := Rd.cell (Own.rd HU.out) (j := 1) (by omega)
      have u2 := Rd.cell (Own.rd HU.out) (j := 2) (by omega)
      have z0 := Rd.cell (Own.rd HZ.out) (j := 0) (by omega)
      have z1 := Rd.cell (Own.rd HZ.out) (j := 1) (by omega)
      have z2 := Rd.cell (Own.rd HZ.out) (j := 2) (by omega)
      have fu0 := Ownv.frozen HU.out (by omega) 0
      have fu1 := Ownv.frozen HU.out (by omega) 1
      have fu2 := Ownv.frozen HU.out (by omega) 2
      have fz0 := Ownv.frozen HZ.out (by omega) 0
      have fz1 := Ownv.frozen HZ.out (by omega) 1
      have fz2 := Ownv.frozen HZ.out (by omega) 2
      have gi0 : ∀ x y z, gi [x, y, z] 0 = x := fun _ _ _ => rfl
      have gi1 : ∀ x y z, gi [x, y, z] 1 = y := fun _ _ _ => rfl
      have gi2 : ∀ x y z, gi [x, y, z] 2 = z := fun _ _ _ => rfl
      simp only [gi0, gi1, gi2] at u0 u1 u2 z0 z1 z2
      simp only [adr_some, Nat.zero_add] at u0 u1 u2 z0 z1 z2 fu0 fu1 fu2 fz0 fz1 fz2
      clear gi0 gi1 gi2 hst' hU hZ
      have HB := Lib.hid hB
      clear hB
      go_wp2
      go_region
      go_wp2
      have s1 := Own.set3 HU.out (ib (tlU a b c 0)) (ib (tlU a b c 1)) (ib (tlU a b c 2))
      have hne : (some (blk (some ⟨w.heap.size + 1, 0, none⟩))) ≠ some w.heap.size := fun he => by have := Option.some.inj he; simp [blk] at this
      have hne' : (some (blk (some ⟨w.heap.size, 0, none⟩))) ≠ some (w.heap.size + 1) := fun he => by have := Option.some.inj he; simp [blk] at this
      have s2 := Own.set3 (Ownv.grown HZ.out s1.2 (fun _ => hne)) (ib (tlZ a b c 0)) (ib (tlZ a b c 1)) (ib (tlZ a b c 2))
      have s3 : Own .u8 61 _ _ _ 3 3 [(ib (tlU a b c 0)), (ib (tlU a b c 1)), (ib (tlU a b c 2))] := Ownv.grown s1.1 s2.2 (fun _ => hne')
      have b1 := HB.out.grown s1.2 HB.out.size (fun k hk => by have := Option.some.inj hk; omega)
      have b2 := b1.grown s2.2 b1.size (fun k hk => by have := Option.some.inj hk; omega)
      refine bodyPost_ret (v := .tuple #[.agg #[.int .u8 (ib (tlU a b c 0)), .int .u8 (ib (tlU a b c 1)), .int .u8 (ib (tlU a b c 2))], .agg #[.int .u8 (ib (tlZ a b c 0)), .int .u8 (ib (tlZ a b c 1)), .int .u8 (ib (tlZ a b c 2))], .int .i64 0]) ?_ rfl ⟨rfl, b2.drew⟩
      rw [results_cct rfl]
      have l1 := load_u8x3 (Ownv.drew s3)
      have l2 := load_u8x3 (Ownv.drew s2.1)
      simp [asAddr, l1, l2, Sem.run_pure]
end Go.Proofs.YtpdalbckmfadbaaGreat

namespace Go.Proofs.YtpdalbckmfadbaaGreat
open Go.RowKit
set_option linter.unusedVariables false
/-- bytes that are bits -/
def toB (xs : List Int) : List Bool := xs.map fun x => decide (x = 1)
theorem toB_ib (xs : List Int) (h0 : ∀ x ∈ xs, 0 ≤ x) (hv : ValidB xs = true) : (toB xs).map ib = xs := by
  unfold toB
  rw [List.map_map]
  have h1 : ∀ x ∈ xs, (ib ∘ fun x => decide (x = 1)) x = x := by
    intro x hx
    have h2 := List.all_eq_true.1 hv x hx
    have h3 := h0 x hx
    simp only [decide_eq_true_eq] at h2
    simp only [Function.comp, ib]
    by_cases e : x = 1
    · simp [e]
    · rw [if_neg (by simpa using e)]; omega
  rw [List.map_congr_left h1, List.map_id']
end Go.Proofs.YtpdalbckmfadbaaGreat

namespace Go.Proofs.YtpdalbckmfadbaaGreat
open Go.RowKit
set_option linter.unusedVariables false
def stS (s : St3) : Int := stI s.1 s.2.1 s.2.2
end Go.Proofs.YtpdalbckmfadbaaGreat

namespace Go.Proofs.YtpdalbckmfadbaaGreat
open Go.RowKit
set_option linter.unusedVariables false
section
variable {P : Program} {w w' w0 : World} {A B : Option Addr} {n c m d g : Nat} {vs us : List Value} {e : TypeId}
theorem bal (h : Below w0.heap.size w0 w) (o : Obj) : Below w0.heap.size w0 (w.alloc o) := h.alloc h.size o
theorem heap_new' {N : Nat} {o : Obj} (hN : N = w.heap.size) : (w.alloc o).heap[N]? = some o := by subst hN; exact heap_alloc_new _ _
theorem heap_old' {N : Nat} {o x : Obj} (h : w.heap[N]? = some x) : (w.alloc o).heap[N]? = some x := by
  rw [heap_alloc_old (h := (Array.getElem?_eq_some_iff.1 h).1)]; exact h
theorem Ownv.of_heap {cs : Array Value} {base : Nat} (h : w.heap[g]? = some (.cells cs e (0, 0))) (hb : base ≤ g) (hm : cs.size ≤ maxLen) : Ownv e w base (some ⟨g, 0, none⟩) cs.size cs.size cs.toList :=
  ⟨by simp, .inr ⟨g, cs.size, cs, rfl, hb, h, Nat.le_refl _, hm, by simp, by rw [Nat.mul_one]; exact List.take_of_length_le (by simp)⟩⟩
end
theorem heap_lt {w : World} {g : Nat} {x : Obj} (h : w.heap[g]? = some x) : g < w.heap.size := (Array.getElem?_eq_some_iff.1 h).1
end Go.Proofs.YtpdalbckmfadbaaGreat

namespace Go.Proofs.YtpdalbckmfadbaaGreat
open Go.RowKit
set_option linter.unusedVariables false
theorem conv_rd {w : World} {A : Option Addr} {n c : Nat} {xs : List Int} (h : Rd .u8 w A n c xs) : (convert 22 9 (.slice A n c)).run Tryz.prog w = .ok (.string (strOfNums xs)) w := by
  have hu : Tryz.prog.underlying 9 = some .string := by kernel_rfl
  have h5 : Tryz.prog.underlying 5 = some (.int .u8) := by kernel_rfl
  cases A with
  | none =>
    have := Rdv.nil h rfl
    have := Rdv.le h
    obtain rfl : n = 0 := by omega
    obtain rfl : xs = [] := List.eq_nil_of_length_eq_zero h.len
    exact run_convert_bytes_nil w 22 5 el26.u h5 0 c 9 hu
  | some a =>
    by_cases hn : n = 0
    · subst hn
      obtain rfl : xs = [] := List.eq_nil_of_length_eq_zero h.len
      rw [run_convert_bytes_string w 22 9 5 _ 0 c el26.u h5 hu, run_bytesToString w a 0 c [] (by simpa using run_loadCells_list (P := Tryz.prog) w a [] (fun j v hj => by cases hj))]
      rfl
    · obtain ⟨b, o, hA, _⟩ := Rdv.ptr h (by have := Rdv.le h; omega)
      cases hA
      exact run_convert_bytes_arg w 22 5 el26.u h5 b o n c xs h.len (fun i hi => Rd.cell h hi) 9 hu
end Go.Proofs.YtpdalbckmfadbaaGreat

namespace Go.Proofs.YtpdalbckmfadbaaGreat
open Go.RowKit
end Go.Proofs.YtpdalbckmfadbaaGreat

