/-
  Contracts of the reference's Step, Tail, Walk and Encode of the trellis, and of its Size. Condition: a bound on the length.
-/
import Derived.Test.YtmdjclfmhndjnaaW
namespace Go.Proofs.Ytmdjclfmhndjnaa
open Go.RowKit
set_option linter.unusedVariables false
def stS (s : St3) : Int := stI s.1 s.2.1 s.2.2
theorem stS_bd (s : St3) : 0 ≤ stS s ∧ stS s < 8 := stI_bd _ _ _
set_option maxRecDepth 100000 in
theorem rstep_any (s : St3) (x : Bool) (w : World) : Calls Try.prog 52 #[.int .i64 (stS s), .int .i64 (ib x)] w fun e w' => e = .returned (.tuple #[.int .i64 (stS (stp s x)), .int .i64 (ib (par s x))]) ∧ w = w' := by
  obtain ⟨a, b, c⟩ := s
  cases a <;> cases b <;> cases c <;> cases x <;> (
    simp only [stS, stp, par, stI, ib, if_true, if_false, Bool.false_eq_true]
    go_enter Try.func52, Try.ntmps52
    go_wp2
    go_ret2
    exact ⟨rfl, rfl⟩)
def stL (s : St3) : List Bool → List Int
  | [] => []
  | x :: l => stS (stp s x) :: stL (stp s x) l
theorem stL_snoc (l : List Bool) (x : Bool) : ∀ s, stL s (l ++ [x]) = stL s l ++ [stS (stp (l.foldl stp s) x)] := by
  induction l with
  | nil => intro s; rfl
  | cons y l ih => intro s; simp only [List.cons_append, stL, List.foldl_cons, ih]
theorem stL_len (l : List Bool) : ∀ s, (stL s l).length = l.length := by
  induction l with
  | nil => intro s; rfl
  | cons y l ih => intro s; simp [stL, ih]
theorem stL_last (l : List Bool) (h : l ≠ []) (s : St3) : gi (stL s l) (l.length - 1) = stS (l.foldl stp s) := by
  obtain ⟨l', x, rfl⟩ : ∃ l' x, l = l' ++ [x] := ⟨l.dropLast, l.getLast h, (List.dropLast_concat_getLast h).symm⟩
  rw [stL_snoc, List.foldl_append]
  have e : (l' ++ [x]).length - 1 = (stL s l').length := by rw [stL_len]; simp
  rw [e, gi_eq _ _ (by simp)]
  simp
theorem own_ob_ne {e e' : TypeId} {w : World} {base base' : Nat} {A B : Option Addr} {n c m d : Nat} {vs us : List Value} (h : Ownv e w base A n c vs) (h' : Ownv e' w base' B m d us) (he : e ≠ e') (hB : B ≠ none) : some (blk B) ≠ (Value.slice A n c).ownBlock := by
  intro hh
  rcases (Ownv.cases h).2 with ⟨rfl, _⟩ | ⟨g, cur, rfl, _⟩
  · simp [Value.ownBlock] at hh
  · refine own_tag_ne h h' he (by simp) hB ?_
    simp [Value.ownBlock] at hh
    exact hh.symm
def WalkSt (w wr : World) (j : Nat) (b : List Bool) (A B : Option Addr) (c d : Nat) : Prop :=
  Own .i64 3 wr w.heap.size A j c (stL s0 b) ∧ Own .u8 5 wr w.heap.size B j d ((parL s0 b).map ib) ∧ Below w.heap.size w wr
def WalkInv (w : World) (xs : List Int) (i s a p : Value) (wr : World) : Prop :=
  ∃ (j : Nat) (A B : Option Addr) (c d : Nat), j ≤ xs.length ∧ i = .int .i64 j ∧ s = .int .i64 (stS (fin (toB (xs.take j)))) ∧ a = .slice A j c ∧ p = .slice B j d ∧ (∀ q, q < j → gi xs q ≤ 1) ∧ WalkSt w wr j (toB (xs.take j)) A B c d
def WalkPost (w : World) (xs : List Int) (e : Ending) (w' : World) : Prop :=
  ∃ (j : Nat) (A B : Option Addr) (c d : Nat), e = .returned (.tuple #[.slice A j c, .slice B j d, .bool (ValidB xs)]) ∧ Below w.heap.size w w' ∧ (ValidB xs = true → j = xs.length ∧ WalkSt w w' j (toB xs) A B c d)
theorem toB_snoc (xs : List Int) (j : Nat) (h : j < xs.length) : toB (xs.take (j + 1)) = toB (xs.take j) ++ [decide (gi xs j = 1)] := by
  rw [List.take_add_one, List.getElem?_eq_getElem h, toB, List.map_append, gi_eq _ _ h]; rfl
set_option maxRecDepth 100000 in
set_option maxHeartbeats 600000 in
theorem rwalk_any (A : Option Addr) (n c : Nat) (xs : List Int) (w : World) (h : Rd .u8 w A n c xs) (h0 : ∀ x ∈ xs, 0 ≤ x) (hn : n ≤ 100000) :
    Calls Try.prog 71 #[.slice A n c] w (WalkPost w xs) := by
  have hl := h.len
  have HH := Lib.hid h
  have H0 : Hid (∀ q, q < xs.length → 0 ≤ gi xs q) := Lib.hid (fun q hq => h0 _ (gi_mem xs q hq))
  have HL := Lib.hid hl
  clear h h0 hl
  go_enter Try.func71, Try.ntmps71
  go_wp2
  go_loopw [8, 7, 5, 6] (fun i s a p wr => WalkInv w xs i s a p wr) (fun i _ _ _ _ => n - (intOf i).toNat)
  case atStart => exact ⟨0, none, none, 0, 0, by omega, rfl, rfl, rfl, rfl, by intro q hq; omega, Own.nilv _ _ _ _, Own.nilv _ _ _ _, Below.refl _ _⟩
  case round =>
    obtain ⟨j, A1, B1, c1, d1, hj, rfl, rfl, rfl, rfl, hv, hs, hp, hB⟩ := hrel
    rw [HL.out] at hj
    by_cases hlt : j < n
    · have hx := Rdv.below HH.out hB
      have hix := fun W => Rdv.ix hx el26 hlt .i64 W
      have hcell := Rd.cell hx hlt
      have hg0 := H0.out j (by rw [HL.out]; exact hlt)
      have HV := Lib.hid hv
      have HS := Lib.hid hs
      have HP := Lib.hid hp
      have HB := Lib.hid hB
      clear hv hs hp hB hx
      by_cases h1 : gi xs j ≤ 1
      · have h1' : decide (1 < gi xs j) = false := by simp; omega
        have e1 : gi xs j = ib (decide (gi xs j = 1)) := by
          unfold ib
          by_cases e : gi xs j = 1
          · simp [e]
          · rw [if_neg (by simpa using e)]; omega
        have HTS := Lib.hid (toB_snoc xs j (by rw [HL.out]; exact hlt))
        have H1 := Lib.hid h1
        generalize hbx : decide (gi xs j = 1) = x at *
        have HE1 := Lib.hid e1
        have hrs := fun W => Lib.hid (rstep_any (fin (toB (xs.take j))) x W)
        have hpb : 0 ≤ ib (par (fin (toB (xs.take j))) x) ∧ ib (par (fin (toB (xs.take j))) x) ≤ 1 := by cases par (fin (toB (xs.take j))) x <;> decide
        have hwp : IntKind.u8.wrap (ib (par (fin (toB (xs.take j))) x)) = ib (par (fin (toB (xs.take j))) x) := by cases par (fin (toB (xs.take j))) x <;> decide
        have hwx : IntKind.i64.wrap (ib x) = ib x := by cases x <;> decide
        rw [e1] at hcell h1'
        clear e1 hbx h1 hg0
        have hsb := stS_bd (fin (toB (xs.take j)))
        have hsb2 := stS_bd (stp (fin (toB (xs.take j))) x)
        have HFS : Hid (fin (toB (xs.take (j + 1))) = stp (fin (toB (xs.take j))) x) := Lib.hid (by rw [HTS.out]; unfold fin; rw [List.foldl_append]; rfl)
        have HPL : Hid (parL s0 (toB (xs.take (j + 1))) = parL s0 (toB (xs.take j)) ++ [par (fin (toB (xs.take j))) x]) := Lib.hid (by rw [HTS.out, parL_snoc]; rfl)
        have HSL : Hid (stL s0 (toB (xs.take (j + 1))) = stL s0 (toB (xs.take j)) ++ [stS (stp (fin (toB (xs.take j))) x)]) := Lib.hid (by rw [HTS.out, stL_snoc]; rfl)
        generalize fin (toB (xs.take j)) = s at *
        generalize parL s0 (toB (xs.take j)) = ps at *
        generalize stL s0 (toB (xs.take j)) = ss at *
        generalize hps : par s x = pb at *
        generalize stp s x = s' at *
        have hp0 := hpb.1
        have hp1 := hpb.2
        clear hpb hps
        go_wp2_with (first
          | (go_at_call 52; refine (hrs _).out.mono ?_; rintro e w4 ⟨rfl, rfl⟩)
          | (at_builtin; refine list_of rfl fun K hK => wp_app1 _ _ 22 rfl el22 rfl (.int .i64 (stS s')) rfl rfl HS.out (by omega) (by omega) HB.out.size ?_; intro A2 c2 w5 hO5 hg5; refine hK _ _ ?_; clear hK K; have hP5 := Ownv.grown HP.out hg5 (fun hB => own_ob_ne HS.out HP.out (by decide) hB); have hB5 := HB.out.grown hg5 HB.out.size (fun k hk => Ownv.ob' HS.out hk); have HO5 := Lib.hid hO5; have HP5 := Lib.hid hP5; have HB5 := Lib.hid hB5; clear hO5 hg5 hP5 hB5)
          | (at_builtin; refine list_of rfl fun K hK => wp_app1 _ _ 26 rfl el26 rfl (.int .u8 (ib pb)) rfl rfl HP5.out (by omega) (by omega) HB5.out.size ?_; intro B2 d2 w6 hO6 hg6; refine hK _ _ ?_; clear hK K; have hS6 := Ownv.grown HO5.out hg6 (fun hA => own_ob_ne HP5.out HO5.out (by decide) hA); have hB6 := HB5.out.grown hg6 HB5.out.size (fun k hk => Ownv.ob' HP5.out hk); have HO6 := Lib.hid hO6; have HS6 := Lib.hid hS6; have HB6 := Lib.hid hB6; clear hO6 hg6 hS6 hB6))
        go_roundw
        case rel => exact ⟨j + 1, A2, B2, c2, d2, by rw [HL.out]; omega, by go_num, by rw [HFS.out], rfl, rfl, fun q hq => lt_succ_cases HV.out H1.out q hq, by rw [HSL.out]; exact Own.of_eq HS6.out rfl (by simp), by rw [HPL.out]; exact Own.of_eq HO6.out rfl (by simp), HB6.out⟩
        case measure => simp [intOf]; omega
      · have h1' : decide (1 < gi xs j) = true := by simp; omega
        have hf := validB_f (by rw [HL.out]; exact hlt) (by omega : 1 < gi xs j)
        have HF := Lib.hid hf
        clear hf
        go_wp2
        go_ret3
        exact ⟨j, A1, B1, c1, d1, by rw [HF.out]; rfl, HB.out, fun hh => by rw [HF.out] at hh; cases hh⟩
    · obtain rfl : j = n := by omega
      have hf := validB_t (xs := xs) (by rw [HL.out]; intro q hq; exact hv q hq)
      have ht : xs.take j = xs := by rw [← HL.out, List.take_length]
      rw [ht] at hs hp
      have HF := Lib.hid hf
      clear hf ht
      go_wp2
      go_ret3
      exact ⟨j, A1, B1, c1, d1, by rw [HF.out]; rfl, hB, fun _ => ⟨HL.out.symm, hs, hp, hB⟩⟩
theorem toB_map (bs : List Bool) : toB (bs.map ib) = bs := by
  unfold toB
  rw [List.map_map]
  have h1 : ∀ x ∈ bs, ((fun x => decide (x = 1)) ∘ ib) x = x := by intro x _; cases x <;> decide
  rw [List.map_congr_left h1, List.map_id']
theorem ib_nonneg (bs : List Bool) : ∀ x ∈ bs.map ib, 0 ≤ x := by
  intro x hx
  obtain ⟨b, _, rfl⟩ := List.mem_map.1 hx
  cases b <;> decide
set_option maxRecDepth 100000 in
set_option maxHeartbeats 600000 in
theorem rtencode_any (A : Option Addr) (n c : Nat) (bs : List Bool) (w : World) (h : Rd .u8 w A n c (bs.map ib)) (hn : n ≤ 100000) (h1 : 1 ≤ n) :
    Calls Try.prog 57 #[.slice A n c] w fun e w' => ∃ B d, e = .returned (.tuple #[.slice B n d, .int .i64 (stS (fin bs)), .int .i64 0]) ∧ Own .u8 5 w' w.heap.size B n d ((parL s0 bs).map ib) ∧ Below w.heap.size w w' := by
  have hl : bs.length = n := by have := h.len; simpa using this
  have hw := fun W h => Lib.hid (rwalk_any A n c (bs.map ib) W h (ib_nonneg bs) hn)
  have hv := valid_ib bs
  have HT := Lib.hid (toB_map bs)
  have HL := Lib.hid hl
  have HV := Lib.hid hv
  clear hl hv
  go_enter Try.func57, Try.ntmps57
  go_wp2_with fail
  refine (hw _ h).out.mono ?_
  rintro e w1 ⟨j, A1, B1, c1, d1, rfl, hB, hS⟩
  obtain ⟨hj, hs, hp, -⟩ := hS HV.out
  rw [List.length_map, HL.out] at hj
  subst hj
  rw [HT.out] at hs hp
  rw [HV.out]
  have hz : ((j : Int) == 0) = false := beq_f (by omega)
  have hcell := Rd.cell (Own.rd hs) (j := j - 1) (by omega)
  have hlast := stL_last bs (by intro e; subst e; have := HL.out; simp at this; omega) s0
  rw [HL.out] at hlast
  rw [hlast] at hcell
  have hix := fun W => Rdv.ixI (Own.rd hs) el22 (j := j - 1) (by omega) .i64 ((j : Int) - 1) (by omega) W
  have hwr : IntKind.i64.wrap ((j : Int) - 1) = (j : Int) - 1 := IntWalk.i64_in _ (by omega)
  have HS := Lib.hid hs
  have HP := Lib.hid hp
  have HB := Lib.hid hB
  clear hs hp hB h hlast hw
  have hfin : bs.foldl stp s0 = fin bs := rfl
  rw [hfin] at hcell
  clear hfin
  go_wp2
  go_quiet (fail)
  go_wp2
  go_ret3
  exact ⟨B1, d1, rfl, by first | exact HP.out | exact Ownv.drewN HP.out _ | exact Ownv.drew HP.out, by first | exact HB.out | exact HB.out.trans (Qt.below ⟨_, rfl⟩ _)⟩
set_option maxRecDepth 100000 in
theorem rtencode_bad (A : Option Addr) (n c : Nat) (xs : List Int) (w : World) (h : Rd .u8 w A n c xs) (h0 : ∀ x ∈ xs, 0 ≤ x) (hn : n ≤ 100000) (hv : ValidB xs = false) :
    Calls Try.prog 57 #[.slice A n c] w fun e w' => e = .returned (.tuple #[.slice none 0 0, .int .i64 0, .int .i64 3]) ∧ Below w.heap.size w w' := by
  have hw := fun W h => Lib.hid (rwalk_any A n c xs W h h0 hn)
  have HV := Lib.hid hv
  clear hv h0
  go_enter Try.func57, Try.ntmps57
  go_wp2_with fail
  refine (hw _ h).out.mono ?_
  rintro e w1 ⟨j, A1, B1, c1, d1, rfl, hB, hS⟩
  rw [HV.out]
  clear hS h hw
  go_wp2
  go_ret3
  exact ⟨rfl, hB⟩
def RTailInv (s : St3) (w : World) (i v : Value) (wr : World) : Prop :=
  ∃ (j : Nat), j ≤ 3 ∧ i = .int .i64 j ∧ v = .int .i64 (stS (tlS s.1 s.2.1 s.2.2 j)) ∧ Arr3 wr w.heap.size (w.heap.size + 2) (tu s) j ∧ Arr3 wr w.heap.size (w.heap.size + 3) (tz s) j ∧
    Own .u8 97 wr w.heap.size (some ⟨w.heap.size, 0, none⟩) 3 3 [0, 0, 0] ∧ Own .u8 97 wr w.heap.size (some ⟨w.heap.size + 1, 0, none⟩) 3 3 [0, 0, 0] ∧ Below w.heap.size w wr
theorem rtail_next (s : St3) (w wr : World) (j : Nat) (hj : j < 3) (vu vz : List Int)
    (hU : Own .u8 97 wr w.heap.size (some ⟨w.heap.size + 2, 0, none⟩) 3 3 vu) (hqu : ∀ q, q < j → gi vu q = ib (tu s q))
    (hZ : Own .u8 97 wr w.heap.size (some ⟨w.heap.size + 3, 0, none⟩) 3 3 vz) (hqz : ∀ q, q < j → gi vz q = ib (tz s q))
    (hX : Own .u8 97 wr w.heap.size (some ⟨w.heap.size, 0, none⟩) 3 3 [0, 0, 0]) (hY : Own .u8 97 wr w.heap.size (some ⟨w.heap.size + 1, 0, none⟩) 3 3 [0, 0, 0])
    (hB : Below w.heap.size w wr) (iu iz : Int) (hiu : ib (tu s j) = iu) (hiz : ib (tz s j) = iz) :
    RTailInv s w (.int .i64 ((j + 1 : Nat) : Int)) (.int .i64 (stS (tlS s.1 s.2.1 s.2.2 (j + 1)))) ((wr.setCell (adr (some ⟨w.heap.size + 2, 0, none⟩) j) (.int .u8 iu)).setCell (adr (some ⟨w.heap.size + 3, 0, none⟩) j) (.int .u8 iz)) := by
  have nb : ∀ {x y : Nat}, x ≠ y → ∀ {o : Nat}, (some (blk (some ⟨x, 0, none⟩))) ≠ some (blk (some (⟨y, o, none⟩ : Addr))) := fun h _ he => h (Option.some.inj he)
  have u2 := Own.set_ hU hj iu
  have z2 : Own .u8 97 _ w.heap.size (some ⟨w.heap.size + 3, 0, none⟩) 3 3 vz := Ownv.grown hZ u2.2 (fun _ => nb (by omega))
  have z3 := Own.set_ z2 hj iz
  have u3 : Own .u8 97 _ w.heap.size (some ⟨w.heap.size + 2, 0, none⟩) 3 3 (vu.set j iu) := Ownv.grown u2.1 z3.2 (fun _ => nb (by omega))
  have x3 : Own .u8 97 _ w.heap.size (some ⟨w.heap.size, 0, none⟩) 3 3 [0, 0, 0] := Ownv.grown (Ownv.grown hX u2.2 (fun _ => nb (by omega))) z3.2 (fun _ => nb (by omega))
  have y3 : Own .u8 97 _ w.heap.size (some ⟨w.heap.size + 1, 0, none⟩) 3 3 [0, 0, 0] := Ownv.grown (Ownv.grown hY u2.2 (fun _ => nb (by omega))) z3.2 (fun _ => nb (by omega))
  have hlu := (Own.rd hU).len
  have hlz := (Own.rd hZ).len
  have h5 := hB.grown u2.2 hB.size (fun k hk => by have := Option.some.inj hk; simp [blk] at this; omega)
  have h6 := h5.grown z3.2 h5.size (fun k hk => by have := Option.some.inj hk; simp [blk] at this; omega)
  refine ⟨j + 1, by omega, rfl, rfl, ⟨_, u3, fun q hq => ?_⟩, ⟨_, z3.1, fun q hq => ?_⟩, x3, y3, h6⟩
  · rw [gi_set _ _ _ _ (by omega)]
    by_cases e : j = q
    · subst e; rw [if_pos rfl, hiu]
    · rw [if_neg e]; exact hqu q (by omega)
  · rw [gi_set _ _ _ _ (by omega)]
    by_cases e : j = q
    · subst e; rw [if_pos rfl, hiz]
    · rw [if_neg e]; exact hqz q (by omega)
theorem tl_half (s : St3) : (stS s / 2 + stS s) % 2 = ib (s.2.1 ^^ s.2.2) := by
  obtain ⟨a, b, c⟩ := s; cases a <;> cases b <;> cases c <;> decide
def tails (s : St3) : Value := .tuple #[.agg #[.int .u8 (ib (tu s 0)), .int .u8 (ib (tu s 1)), .int .u8 (ib (tu s 2))], .agg #[.int .u8 (ib (tz s 0)), .int .u8 (ib (tz s 1)), .int .u8 (ib (tz s 2))]]
set_option maxRecDepth 100000 in
set_option maxHeartbeats 600000 in
theorem rtail_any (s : St3) (w : World) : Calls Try.prog 58 #[.int .i64 (stS s)] w fun e w' => e = .returned (tails s) ∧ Below w.heap.size w w' := by
  have lit : ∀ W : World, Own .u8 97 (W.alloc (.cells #[.int .u8 0, .int .u8 0, .int .u8 0] 97)) W.heap.size (some ⟨W.heap.size, 0, none⟩) 3 3 [0, 0, 0] := fun W =>
    Own.of_eq (Ownv.lit W #[.int .u8 0, .int .u8 0, .int .u8 0] 97 rfl (Nat.le_refl _) (by show 3 ≤ maxLen; unfold maxLen; omega)) rfl rfl
  have z0 := (((Ownv.alloc (Ownv.alloc (Ownv.alloc (lit w) (.cells #[.int .u8 0, .int .u8 0, .int .u8 0] 97)) (.cells #[.int .u8 0, .int .u8 0, .int .u8 0] 97)) (.cells #[.int .u8 0, .int .u8 0, .int .u8 0] 97))))
  have z1 := (Ownv.alloc (Ownv.alloc (lit (w.alloc (.cells #[.int .u8 0, .int .u8 0, .int .u8 0] 97))) (.cells #[.int .u8 0, .int .u8 0, .int .u8 0] 97)) (.cells #[.int .u8 0, .int .u8 0, .int .u8 0] 97))
  have z2 := (Ownv.alloc (lit ((w.alloc (.cells #[.int .u8 0, .int .u8 0, .int .u8 0] 97)).alloc (.cells #[.int .u8 0, .int .u8 0, .int .u8 0] 97))) (.cells #[.int .u8 0, .int .u8 0, .int .u8 0] 97))
  have z3 := lit (((w.alloc (.cells #[.int .u8 0, .int .u8 0, .int .u8 0] 97)).alloc (.cells #[.int .u8 0, .int .u8 0, .int .u8 0] 97)).alloc (.cells #[.int .u8 0, .int .u8 0, .int .u8 0] 97))
  simp only [World.size_alloc, Nat.add_assoc] at z1 z2 z3
  have Z0 := Lib.hid z0
  have Z1 := Lib.hid (Ownv.mono (base' := w.heap.size) z1 (by omega))
  have Z2 := Lib.hid (Ownv.mono (base' := w.heap.size) z2 (by omega))
  have Z3 := Lib.hid (Ownv.mono (base' := w.heap.size) z3 (by omega))
  clear z0 z1 z2 z3 lit
  have hb := stS_bd s
  go_enter Try.func58, Try.ntmps58
  go_wp2
  go_loopw [6, 0] (fun i v wr => RTailInv s w i v wr) (fun i _ _ => 3 - (intOf i).toNat)
  case atStart => exact ⟨0, by omega, rfl, rfl, ⟨_, Z2.out, by intro q hq; omega⟩, ⟨_, Z3.out, by intro q hq; omega⟩, Z0.out, Z1.out, ((((Below.refl _ w).alloc (Nat.le_refl _) _).alloc (by simp) _).alloc (by simp; omega) _).alloc (by simp; omega) _⟩
  case round =>
    obtain ⟨j, hj, rfl, rfl, hU, hZ, hX, hY, hB⟩ := hrel
    by_cases hlt : j < 3
    · obtain ⟨q1, q2, q3⟩ := tl_step s.1 s.2.1 s.2.2 j hlt
      change _ = tz s j at q2
      change _ = tu s j at q3
      have hwu : IntKind.u8.wrap (ib (tu s j)) = ib (tu s j) := by cases tu s j <;> decide
      have hwz : IntKind.u8.wrap (ib (tz s j)) = ib (tz s j) := by cases tz s j <;> decide
      have hhalf := tl_half (tlS s.1 s.2.1 s.2.2 j)
      rw [q3] at hhalf
      have hst := fun W => Lib.hid (rstep_any (tlS s.1 s.2.1 s.2.2 j) (tu s j) W)
      have q1' : stp (tlS s.1 s.2.1 s.2.2 j) (tu s j) = tlS s.1 s.2.1 s.2.2 (j + 1) := q1
      have q2' : par (tlS s.1 s.2.1 s.2.2 j) (tu s j) = tz s j := q2
      rw [q1', q2'] at hst
      have hsb := stS_bd (tlS s.1 s.2.1 s.2.2 j)
      clear q1 q2 q3 q1' q2' Z0 Z1 Z2 Z3
      obtain ⟨vu, hOu, hqu⟩ := hU
      obtain ⟨vz, hOz, hqz⟩ := hZ
      have HN := Lib.hid (rtail_next s w wr j hlt vu vz hOu hqu hOz hqz hX hY hB _ _ rfl rfl)
      have HQU := Lib.hid hqu
      have HQZ := Lib.hid hqz
      clear hqu hqz hX hY hB
      generalize ib (tu s j) = iu at *
      generalize ib (tz s j) = iz at *
      generalize stS (tlS s.1 s.2.1 s.2.2 j) = st at *
      generalize stS (tlS s.1 s.2.1 s.2.2 (j + 1)) = st' at *
      obtain ⟨hs0, hs1⟩ := hsb
      rcases (by omega : j = 0 ∨ j = 1 ∨ j = 2) with rfl | rfl | rfl
      all_goals try simp only [Int.ofNat_zero, Int.ofNat_one, Int.cast_ofNat_Int]
      · have hcu := Rd.cell (Own.rd hOu) hlt
        have hcz := Rd.cell (Own.rd hOz) hlt
        have hfu := Ownv.frozen hOu (by omega) 0
        have hfz := Ownv.frozen hOz (by omega) 0
        simp only [adr_some, Nat.zero_add] at hcu hcz hfu hfz
        clear hOu hOz
        go_wp2_with (go_at_call 52; refine (hst _).out.mono ?_; rintro e w4 ⟨rfl, rfl⟩)
        go_roundw
        case rel => exact HN.out
        case measure => simp [intOf]
      · have hcu := Rd.cell (Own.rd hOu) hlt
        have hcz := Rd.cell (Own.rd hOz) hlt
        have hfu := Ownv.frozen hOu (by omega) 1
        have hfz := Ownv.frozen hOz (by omega) 1
        simp only [adr_some, Nat.zero_add] at hcu hcz hfu hfz
        clear hOu hOz
        go_wp2_with (go_at_call 52; refine (hst _).out.mono ?_; rintro e w4 ⟨rfl, rfl⟩)
        go_roundw
        case rel => exact HN.out
        case measure => simp [intOf]
      · have hcu := Rd.cell (Own.rd hOu) hlt
        have hcz := Rd.cell (Own.rd hOz) hlt
        have hfu := Ownv.frozen hOu (by omega) 2
        have hfz := Ownv.frozen hOz (by omega) 2
        simp only [adr_some, Nat.zero_add] at hcu hcz hfu hfz
        clear hOu hOz
        go_wp2_with (go_at_call 52; refine (hst _).out.mono ?_; rintro e w4 ⟨rfl, rfl⟩)
        go_roundw
        case rel => exact HN.out
        case measure => simp [intOf]
    · obtain rfl : j = 3 := by omega
      have HU := Lib.hid hU.vals
      have HZ := Lib.hid hZ.vals
      have u0 := Rd.cell (Own.rd HU.out) (j := 0) (by omega)
      have u1 := Rd.cell (Own.rd HU.out) (j := 1) (by omega)
      have u2 := Rd.cell (Own.rd HU.out) (j := 2) (by omega)
      have z0 := Rd.cell (Own.rd HZ.out) (j := 0) (by omega)
      have z1 := Rd.cell (Own.rd HZ.out) (j := 1) (by omega)
      have z2 := Rd.cell (Own.rd HZ.out) (j := 2) (by omega)
      have x0 := Rd.cell (Own.rd hX) (j := 0) (by omega)
      have x1 := Rd.cell (Own.rd hX) (j := 1) (by omega)
      have x2 := Rd.cell (Own.rd hX) (j := 2) (by omega)
      have y0 := Rd.cell (Own.rd hY) (j := 0) (by omega)
      have y1 := Rd.cell (Own.rd hY) (j := 1) (by omega)
      have y2 := Rd.cell (Own.rd hY) (j := 2) (by omega)
      have fx0 := Ownv.frozen hX (by omega) 0
      have fx1 := Ownv.frozen hX (by omega) 1
      have fx2 := Ownv.frozen hX (by omega) 2
      have fy0 := Ownv.frozen hY (by omega) 0
      have fy1 := Ownv.frozen hY (by omega) 1
      have fy2 := Ownv.frozen hY (by omega) 2
      have gi0 : ∀ x y z, gi [x, y, z] 0 = x := fun _ _ _ => rfl
      have gi1 : ∀ x y z, gi [x, y, z] 1 = y := fun _ _ _ => rfl
      have gi2 : ∀ x y z, gi [x, y, z] 2 = z := fun _ _ _ => rfl
      simp only [gi0, gi1, gi2] at u0 u1 u2 z0 z1 z2 x0 x1 x2 y0 y1 y2
      simp only [adr_some, Nat.zero_add] at u0 u1 u2 z0 z1 z2 x0 x1 x2 y0 y1 y2 fx0 fx1 fx2 fy0 fy1 fy2
      have HX := Lib.hid hX
      have HY := Lib.hid hY
      have HB := Lib.hid hB
      clear gi0 gi1 gi2 hU hZ hX hY hB Z0 Z1 Z2 Z3
      go_wp2
      go_region
      go_wp2
      have hne : (some (blk (some ⟨w.heap.size + 1, 0, none⟩))) ≠ some w.heap.size := fun he => by have := Option.some.inj he; simp [blk] at this
      have hne' : (some (blk (some ⟨w.heap.size, 0, none⟩))) ≠ some (w.heap.size + 1) := fun he => by have := Option.some.inj he; simp [blk] at this
      have s1 := Own.set3 HX.out (ib (tu s 0)) (ib (tu s 1)) (ib (tu s 2))
      have s2 := Own.set3 (Ownv.grown HY.out s1.2 (fun _ => hne)) (ib (tz s 0)) (ib (tz s 1)) (ib (tz s 2))
      have s3 : Own .u8 97 _ _ _ 3 3 _ := Ownv.grown s1.1 s2.2 (fun _ => hne')
      have b1 := HB.out.grown s1.2 HB.out.size (fun k hk => by have := Option.some.inj hk; omega)
      have b2 := b1.grown s2.2 b1.size (fun k hk => by have := Option.some.inj hk; omega)
      refine bodyPost_ret (v := tails s) ?_ rfl ⟨rfl, b2.drew⟩
      rw [results_cc rfl]
      have l1 := load_u8x3 (Ownv.drew s3)
      have l2 := load_u8x3 (Ownv.drew s2.1)
      simp [asAddr, l1, l2, Sem.run_pure, tails]
end Go.Proofs.Ytmdjclfmhndjnaa
