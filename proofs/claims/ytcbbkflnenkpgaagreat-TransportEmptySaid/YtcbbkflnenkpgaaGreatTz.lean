/-
  The turbo code: both texts of Encode. Condition: slices that lie in memory.
-/
import Derived.Test.YtcbbkflnenkpgaaGreatTy
import Derived.Deep.RegionHeld3
import Derived.OwnWalk
import Derived.Laws.ResultCell
import Derived.Deep.DeepCutAuto
namespace Go.Proofs.YtcbbkflnenkpgaaGreat.Tu
open Go.RowKit
set_option linter.unusedVariables false
abbrev St3 := Bool × Bool × Bool
def stp (s : St3) (x : Bool) : St3 := (x ^^ s.2.1 ^^ s.2.2, s.1, s.2.1)
def par (s : St3) (x : Bool) : Bool := x ^^ s.2.1 ^^ s.2.2 ^^ s.1 ^^ s.2.2
def parL (s : St3) : List Bool → List Bool
  | [] => []
  | x :: l => par s x :: parL (stp s x) l
def s0 : St3 := (false, false, false)
theorem parL_snoc (l : List Bool) (x : Bool) : ∀ s, parL s (l ++ [x]) = parL s l ++ [par (l.foldl stp s) x] := by
  induction l with
  | nil => intro s; rfl
  | cons y l ih => intro s; simp only [List.cons_append, parL, List.foldl_cons, ih]
theorem parL_len (l : List Bool) : ∀ s, (parL s l).length = l.length := by
  induction l with
  | nil => intro s; rfl
  | cons y l ih => intro s; simp [parL, ih]
def EncInv (w : World) (o : Nat) (bs : List Bool) (i : Value) (wr : World) : Prop :=
  ∃ (j : Nat) (A : Option Addr) (cp : Nat), j ≤ bs.length ∧ i = .int .i64 j ∧ EncSt w.heap.size wr o ((bs.take j).foldl stp s0).1 ((bs.take j).foldl stp s0).2.1 ((bs.take j).foldl stp s0).2.2 A j cp (parL s0 (bs.take j)) ∧ Below w.heap.size w wr
theorem gi_ib (bs : List Bool) (j : Nat) (h : j < bs.length) : gi (bs.map ib) j = ib bs[j] := by
  rw [gi_eq _ _ (by simpa using h)]; simp
theorem valid_ib (bs : List Bool) : ValidB (bs.map ib) = true := validB_t fun q hq => by
  rw [gi_ib _ _ (by simpa using hq)]; cases bs[q]'(by simpa using hq) <;> decide
set_option maxRecDepth 100000 in
set_option maxHeartbeats 600000 in
theorem tencode_any (A : Option Addr) (n c : Nat) (bs : List Bool) (w : World) (h : Rd .u8 w A n c (bs.map ib)) (hn : n ≤ 100000) :
    Calls Tryz.prog 93 #[.slice A n c] w fun e w' => ∃ A' c', e = .returned (.tuple #[.slice A' n c', .int .i64 (stI (bs.foldl stp s0).1 (bs.foldl stp s0).2.1 (bs.foldl stp s0).2.2), .int .i64 0]) ∧ Own .u8 5 w' w.heap.size A' n c' ((parL s0 bs).map ib) ∧ Below w.heap.size w w' := by
  have hl : bs.length = n := by have := h.len; simpa using this
  have hbd := h.bd.1
  have hv := valid_ib bs
  go_enter Tryz.func93, Tryz.ntmps93
  go_wp2_with (go_at_call 69; refine (contains_any A n c _ w h).mono ?_; rintro e w' ⟨rfl, rfl⟩)
  have hob : Ownv 171 (w.alloc (.cells #[.int .i64 0, .int .i64 0, .int .i64 0, .slice none 0 0] 171)) w.heap.size (some ⟨w.heap.size, 0, none⟩) 4 4 [.int .i64 (ib false), .int .i64 (ib false), .int .i64 (ib false), .slice none 0 0] :=
    Ownv.lit w #[.int .i64 0, .int .i64 0, .int .i64 0, .slice none 0 0] 171 rfl (Nat.le_refl _) (by show 4 ≤ maxLen; unfold maxLen; omega)
  have hst : EncSt w.heap.size (w.alloc (.cells #[.int .i64 0, .int .i64 0, .int .i64 0, .slice none 0 0] 171)) w.heap.size false false false none 0 0 [] := ⟨hob, Own.nilv _ _ _ _, fun h => absurd rfl h, by simp⟩
  have hB0 : Below w.heap.size w (w.alloc (.cells #[.int .i64 0, .int .i64 0, .int .i64 0, .slice none 0 0] 171)) := (Below.refl _ w).alloc (Nat.le_refl _) _
  have HH := Lib.hid h
  have HL := Lib.hid hl
  clear hob h hl
  go_loopw [12] (fun i wr => EncInv w w.heap.size bs i wr) (fun i _ => n - (intOf i).toNat)
  case atStart => exact ⟨0, none, 0, Nat.zero_le _, rfl, hst, hB0⟩
  case round =>
    obtain ⟨j, A1, cp, hj, rfl, hst, hB⟩ := hrel
    rw [HL.out] at hj
    by_cases hlt : j < n
    · have hj' : j < bs.length := by rw [HL.out]; exact hlt
      have hx := Rdv.below HH.out hB
      have hix := fun W => Rdv.ix hx el22 hlt .i64 W
      have hcell := Rd.cell hx hlt
      rw [gi_ib _ _ hj'] at hcell
      have ht : bs.take (j + 1) = bs.take j ++ [bs[j]] := by rw [List.take_add_one, List.getElem?_eq_getElem hj']; rfl
      have e1 : (bs.take (j + 1)).foldl stp s0 = stp ((bs.take j).foldl stp s0) bs[j] := by rw [ht, List.foldl_append]; rfl
      have e2 : parL s0 (bs.take (j + 1)) = parL s0 (bs.take j) ++ [par ((bs.take j).foldl stp s0) bs[j]] := by rw [ht, parL_snoc]
      have E1 := Lib.hid e1; have E2 := Lib.hid e2
      have HST := Lib.hid hst
      have hb0 : 0 ≤ ib bs[j] := by cases bs[j] <;> decide
      have hb1 : ib bs[j] ≤ 1 := by cases bs[j] <;> decide
      clear ht e1 e2 hst
      generalize (bs.take j).foldl stp s0 = s at *
      generalize parL s0 (bs.take j) = ps at *
      generalize bs[j] = x at *
      go_wp2_with (go_at_call 127; refine (takes_any w.heap.size w.heap.size s.1 s.2.1 s.2.2 x A1 j cp ps _ HST.out (by omega)).mono ?_; rintro e w4 ⟨rfl, ⟨A2, cp2, hst2⟩, hB2⟩)
      refine ⟨⟨j + 1, A2, cp2, by omega, by go_num, ?_, hB.trans hB2⟩, by simp [intOf]; omega⟩
      rw [E1.out, E2.out]
      exact hst2
    · obtain rfl : j = n := by omega
      rw [← HL.out, List.take_length, HL.out] at hst
      have HST := Lib.hid hst
      obtain ⟨c0, c1, c2, c3, -, -, -, -⟩ := hst.facts
      clear hst
      generalize hs : bs.foldl stp s0 = s at *
      have HS := Lib.hid hs
      clear hs
      have hs60 := fun W => Lib.hid (state_any s.1 s.2.1 s.2.2 W)
      unfold regV at hs60
      go_wp2
      go_region_held3 (fun W => W.cell? ⟨w.heap.size, 0, none⟩ = some (.int .i64 (ib s.1)) ∧ W.cell? ⟨w.heap.size, 1, none⟩ = some (.int .i64 (ib s.2.1)) ∧ W.cell? ⟨w.heap.size, 2, none⟩ = some (.int .i64 (ib s.2.2)) ∧ W.cell? ⟨w.heap.size, 3, none⟩ = some (.slice A1 j cp)) (first | exact ⟨c0, c1, c2, c3⟩ | exact ⟨m0, m1, m2, m3⟩)
        (first
          | (go_at_call 128; refine (hs60 _).out.mono ?_; rintro e w5 ⟨rfl, hB5⟩; obtain ⟨m0, m1, m2, m3, -, -, -, -⟩ := (HST.out.below ((Below.refl _ _).drew.trans hB5)).facts))
      go_wp2
      go_ret3
      rw [HS.out]
      have hq := (Below.refl wr.heap.size wr).drew.trans hB5
      exact ⟨A1, cp, rfl, (HST.out.below hq).row, hB.trans (hq.mono hB.size)⟩
theorem tencode_bad (A : Option Addr) (n c : Nat) (xs : List Int) (w : World) (h : Rd .u8 w A n c xs) (hv : ValidB xs = false) :
    Calls Tryz.prog 93 #[.slice A n c] w fun e w' => e = .returned (.tuple #[.slice none 0 0, .int .i64 0, .int .i64 3]) ∧ w = w' := by
  go_enter Tryz.func93, Tryz.ntmps93
  go_wp2_with (go_at_call 69; refine (contains_any A n c _ w h).mono ?_; rintro e w' ⟨rfl, rfl⟩)
  go_ret3
  exact ⟨rfl, rfl⟩
end Go.Proofs.YtcbbkflnenkpgaaGreat.Tu

namespace Go.Proofs.YtcbbkflnenkpgaaGreat.Tu
open Go.RowKit
set_option linter.unusedVariables false
def tlS (a b c : Bool) (j : Nat) : St3 := if j = 0 then (a, b, c) else if j = 1 then (false, a, b) else if j = 2 then (false, false, a) else (false, false, false)
def tlU (a b c : Bool) (j : Nat) : Bool := if j = 0 then (b ^^ c) else if j = 1 then (a ^^ b) else a
def tlZ (a b c : Bool) (j : Nat) : Bool := if j = 0 then (a ^^ c) else if j = 1 then b else a
theorem tl_step (a b c : Bool) (j : Nat) (h : j < 3) : stp (tlS a b c j) (tlU a b c j) = tlS a b c (j + 1) ∧ par (tlS a b c j) (tlU a b c j) = tlZ a b c j ∧ ((tlS a b c j).2.1 ^^ (tlS a b c j).2.2) = tlU a b c j := by
  rcases (by omega : j = 0 ∨ j = 1 ∨ j = 2) with rfl | rfl | rfl <;> cases a <;> cases b <;> cases c <;> decide
def tu (s : St3) (j : Nat) : Bool := tlU s.1 s.2.1 s.2.2 j
def tz (s : St3) (j : Nat) : Bool := tlZ s.1 s.2.1 s.2.2 j
def fin (bs : List Bool) : St3 := bs.foldl stp s0
def xorS (s t : St3) : St3 := (s.1 ^^ t.1, s.2.1 ^^ t.2.1, s.2.2 ^^ t.2.2)
def xorL (x y : List Bool) : List Bool := List.zipWith xor x y
theorem stp_xor (s t : St3) (x y : Bool) : stp (xorS s t) (x ^^ y) = xorS (stp s x) (stp t y) := by
  obtain ⟨a, b, c⟩ := s; obtain ⟨d, e, f⟩ := t
  show ((x ^^ y) ^^ (b ^^ e) ^^ (c ^^ f), (a ^^ d), (b ^^ e)) = ((x ^^ b ^^ c) ^^ (y ^^ e ^^ f), a ^^ d, b ^^ e)
  refine Prod.ext ?_ rfl
  show ((x ^^ y) ^^ (b ^^ e) ^^ (c ^^ f)) = ((x ^^ b ^^ c) ^^ (y ^^ e ^^ f))
  cases b <;> cases c <;> cases e <;> cases f <;> cases x <;> cases y <;> rfl
theorem par_xor (s t : St3) (x y : Bool) : par (xorS s t) (x ^^ y) = (par s x ^^ par t y) := by
  obtain ⟨a, b, c⟩ := s; obtain ⟨d, e, f⟩ := t
  simp only [par, xorS]
  cases a <;> cases b <;> cases c <;> cases d <;> cases e <;> cases f <;> cases x <;> cases y <;> rfl
theorem tu_xor (s t : St3) (j : Nat) : tu (xorS s t) j = (tu s j ^^ tu t j) := by
  obtain ⟨a, b, c⟩ := s; obtain ⟨d, e, f⟩ := t
  simp only [tu, tlU, xorS]
  split
  · cases b <;> cases c <;> cases e <;> cases f <;> rfl
  · split
    · cases a <;> cases b <;> cases d <;> cases e <;> rfl
    · rfl
theorem tz_xor (s t : St3) (j : Nat) : tz (xorS s t) j = (tz s j ^^ tz t j) := by
  obtain ⟨a, b, c⟩ := s; obtain ⟨d, e, f⟩ := t
  simp only [tz, tlZ, xorS]
  split
  · cases a <;> cases c <;> cases d <;> cases f <;> rfl
  · split <;> rfl
theorem fold_xor : ∀ (x y : List Bool) (s t : St3), x.length = y.length → (xorL x y).foldl stp (xorS s t) = xorS (x.foldl stp s) (y.foldl stp t)
  | [], [], s, t, _ => rfl
  | [], _ :: _, _, _, h => by cases h
  | _ :: _, [], _, _, h => by cases h
  | a :: x, b :: y, s, t, h => by
    simp only [xorL, List.zipWith_cons_cons, List.foldl_cons]
    rw [show (a ^^ b) = xor a b from rfl, stp_xor]
    exact fold_xor x y _ _ (by simpa using h)
theorem parL_xor : ∀ (x y : List Bool) (s t : St3), x.length = y.length → parL (xorS s t) (xorL x y) = xorL (parL s x) (parL t y)
  | [], [], s, t, _ => rfl
  | [], _ :: _, _, _, h => by cases h
  | _ :: _, [], _, _, h => by cases h
  | a :: x, b :: y, s, t, h => by
    simp only [xorL, List.zipWith_cons_cons, parL]
    rw [stp_xor, par_xor]
    congr 1
    exact parL_xor x y _ _ (by simpa using h)
theorem s0_xor : xorS s0 s0 = s0 := rfl
theorem fin_xor (x y : List Bool) (h : x.length = y.length) : fin (xorL x y) = xorS (fin x) (fin y) := by
  have := fold_xor x y s0 s0 h
  rwa [s0_xor] at this
theorem par0_xor (x y : List Bool) (h : x.length = y.length) : parL s0 (xorL x y) = xorL (parL s0 x) (parL s0 y) := by
  have := parL_xor x y s0 s0 h
  rwa [s0_xor] at this
theorem xorL_app (a b c d : List Bool) (h : a.length = c.length) : xorL (a ++ b) (c ++ d) = xorL a c ++ xorL b d := List.zipWith_append h
theorem xorL_len (x y : List Bool) (h : x.length = y.length) : (xorL x y).length = x.length := by simp [xorL, h]
theorem xorL_self : ∀ x : List Bool, xorL x x = List.replicate x.length false
  | [] => rfl
  | a :: x => by simp only [xorL, List.zipWith_cons_cons, List.length_cons, List.replicate_succ, bne_self_eq_false]; congr 1; exact xorL_self x
/-- the number of ones -/
def wt (l : List Bool) : Nat := l.count true
def w1 (b : Bool) : Nat := if b then 1 else 0
theorem wt_app (a b : List Bool) : wt (a ++ b) = wt a + wt b := List.count_append
theorem wt_cons (a : Bool) (b : List Bool) : wt (a :: b) = w1 a + wt b := by
  unfold wt w1; rw [List.count_cons]; cases a <;> simp <;> omega
theorem wt_nil : wt [] = 0 := rfl
def tlW (s : St3) : Nat := w1 (tu s 0) + w1 (tu s 1) + w1 (tu s 2) + w1 (tz s 0) + w1 (tz s 1) + w1 (tz s 2)
/-- a lower bound of what is still to come -/
def pot : St3 → Nat
  | (false, false, false) => 0
  | (false, false, true) => 2
  | (false, true, false) => 3
  | (false, true, true) => 3
  | (true, false, false) => 4
  | (true, false, true) => 4
  | (true, true, false) => 3
  | (true, true, true) => 3
theorem pot_tail : ∀ s : St3, pot s ≤ tlW s := by
  rintro ⟨a, b, c⟩; cases a <;> cases b <;> cases c <;> decide
theorem pot_step : ∀ (s : St3) (x : Bool), pot s ≤ w1 x + w1 (par s x) + pot (stp s x) := by
  rintro ⟨a, b, c⟩ x; cases a <;> cases b <;> cases c <;> cases x <;> decide
theorem pot_le (bs : List Bool) : ∀ s, pot s ≤ wt bs + wt (parL s bs) + tlW (bs.foldl stp s) := by
  induction bs with
  | nil => intro s; simpa [wt, parL] using pot_tail s
  | cons x bs ih =>
    intro s
    have h1 := pot_step s x
    have h2 := ih (stp s x)
    simp only [parL, List.foldl_cons, wt_cons]
    omega
theorem free6 (bs : List Bool) (h : true ∈ bs) : 6 ≤ wt bs + wt (parL s0 bs) + tlW (fin bs) := by
  unfold fin
  induction bs with
  | nil => cases h
  | cons x bs ih =>
    simp only [parL, List.foldl_cons, wt_cons]
    cases x with
    | true =>
      have h1 := pot_le bs (stp s0 true)
      have h2 : pot (stp s0 true) = 4 := rfl
      have h3 : w1 true + w1 (par s0 true) = 2 := rfl
      omega
    | false =>
      have h1 : stp s0 false = s0 := rfl
      have h2 : true ∈ bs := by simpa using h
      have h3 := ih h2
      rw [h1]
      omega
/-- The word of a turbo code over bits. -/
def wordB (x m : List Bool) : List Bool :=
  x ++ [tu (fin x) 0, tz (fin x) 1, tu (fin m) 0, tz (fin m) 1] ++ (parL s0 x ++ [tz (fin x) 0, tu (fin x) 2, tz (fin m) 0, tu (fin m) 2]) ++ (parL s0 m ++ [tu (fin x) 1, tz (fin x) 2, tu (fin m) 1, tz (fin m) 2])
theorem wordB_len (x m : List Bool) (h : m.length = x.length) : (wordB x m).length = 3 * (x.length + 4) := by
  simp only [wordB, List.length_append, parL_len, List.length_cons, List.length_nil, h]; omega
theorem wordB_xor (x y m l : List Bool) (h : x.length = y.length) (h' : m.length = l.length) : wordB (xorL x y) (xorL m l) = xorL (wordB x m) (wordB y l) := by
  unfold wordB
  rw [xorL_app _ _ _ _ (by simp [parL_len, h]), xorL_app _ _ _ _ (by simp [h]), xorL_app _ _ _ _ h, xorL_app _ _ _ _ (by simp [parL_len, h]), xorL_app _ _ _ _ (by simp [parL_len, h'])]
  rw [fin_xor x y h, fin_xor m l h', par0_xor x y h, par0_xor m l h']
  simp only [tu_xor, tz_xor]
  rfl
theorem wordB_wt (x m : List Bool) (h : true ∈ x) : 6 ≤ wt (wordB x m) := by
  have := free6 x h
  unfold tlW at this
  simp only [wordB, wt_app, wt_cons, wt_nil]
  omega
/-- distance -/
def dst (x y : List Bool) : Nat := wt (xorL x y)
theorem xorL_true : ∀ x y : List Bool, x.length = y.length → x ≠ y → true ∈ xorL x y
  | [], [], _, h => absurd rfl h
  | [], _ :: _, h, _ => by cases h
  | _ :: _, [], h, _ => by cases h
  | a :: x, b :: y, hl, h => by
    simp only [xorL, List.zipWith_cons_cons, List.mem_cons]
    by_cases hab : a = b
    · subst hab
      exact .inr (xorL_true x y (by simpa using hl) (by intro e; exact h (by rw [e])))
    · left; cases a <;> cases b <;> simp_all
theorem word_dst (x y m l : List Bool) (h : x.length = y.length) (h' : m.length = l.length) (hne : x ≠ y) : 6 ≤ dst (wordB x m) (wordB y l) := by
  unfold dst
  rw [← wordB_xor x y m l h h']
  exact wordB_wt _ _ (xorL_true x y h hne)
end Go.Proofs.YtcbbkflnenkpgaaGreat.Tu

namespace Go.Proofs.YtcbbkflnenkpgaaGreat.Tu
open Go.RowKit
set_option linter.unusedVariables false
theorem Ownv.keepB {e : TypeId} {w w' : World} {base g n c : Nat} {vs : List Value} {B : Nat} (h : Ownv e w base (some ⟨g, 0, none⟩) n c vs) (hB : Below B w w') (hg : g < B) : Ownv e w' base (some ⟨g, 0, none⟩) n c vs := by
  obtain ⟨h1, h2⟩ := h.ow
  refine ⟨h1, ?_⟩
  rcases h2 with h2 | ⟨g', cap, cur, h2, h3, h4, h5, h6, h7, h8⟩
  · exact .inl h2
  · refine .inr ⟨g', cap, cur, h2, h3, ?_, h5, h6, h7, h8⟩
    simp only [Value.slice.injEq, Option.some.injEq, Addr.mk.injEq] at h2
    obtain ⟨⟨rfl, _⟩, _⟩ := h2
    rw [hB.block g hg]; exact h4
/-- an array of three bytes in a block of its own, filled up to j -/
def Arr3 (w : World) (base b : Nat) (f : Nat → Bool) (j : Nat) : Prop := ∃ vs, Own .u8 87 w base (some ⟨b, 0, none⟩) 3 3 vs ∧ ∀ q, q < j → gi vs q = ib (f q)
theorem Arr3.vals {w : World} {base b : Nat} {f : Nat → Bool} (h : Arr3 w base b f 3) : Own .u8 87 w base (some ⟨b, 0, none⟩) 3 3 [ib (f 0), ib (f 1), ib (f 2)] := by
  obtain ⟨vs, h1, h2⟩ := h
  have hl := (Own.rd h1).len
  have e : vs = [ib (f 0), ib (f 1), ib (f 2)] := by
    refine ext_gi (by rw [hl]; rfl) fun q hq => ?_
    rw [hl] at hq
    rw [h2 q hq]
    rcases (by omega : q = 0 ∨ q = 1 ∨ q = 2) with rfl | rfl | rfl <;> rfl
  rwa [e] at h1
theorem results_cct {fn : Func} {p q u : Tmp} {ty ty' : TypeId} (h : fn.results = #[.cell p ty, .cell q ty', .tmp u]) (tmps : Array Value) (P : Program) (w : World) :
    (results fn tmps).run P w =
      ((asAddr (tmps.getD p undef)).run P w).andThen fun a w₁ => ((loadVar ty a).run P w₁).andThen fun v w₂ => ((asAddr (tmps.getD q undef)).run P w₂).andThen fun b w₃ => ((loadVar ty' b).run P w₃).andThen fun v' w₄ => .ok (.tuple #[v, v', tmps.getD u undef]) w₄ := by
  simp only [results, h]
  simp [Sem.run_bind, Result.andThen]
theorem results_cc {fn : Func} {p q : Tmp} {ty ty' : TypeId} (h : fn.results = #[.cell p ty, .cell q ty']) (tmps : Array Value) (P : Program) (w : World) :
    (results fn tmps).run P w =
      ((asAddr (tmps.getD p undef)).run P w).andThen fun a w₁ => ((loadVar ty a).run P w₁).andThen fun v w₂ => ((asAddr (tmps.getD q undef)).run P w₂).andThen fun b w₃ => ((loadVar ty' b).run P w₃).andThen fun v' w₄ => .ok (.tuple #[v, v']) w₄ := by
  simp only [results, h]
  simp [Sem.run_bind, Result.andThen]
theorem results_c {fn : Func} {p : Tmp} {ty : TypeId} (h : fn.results = #[.cell p ty]) (tmps : Array Value) (P : Program) (w : World) :
    (results fn tmps).run P w = ((asAddr (tmps.getD p undef)).run P w).andThen fun a w₁ => (loadVar ty a).run P w₁ := by
  simp only [results, h]
  simp [Sem.run_bind]
/-- A row of the call's own whole. -/
theorem Ownv.row {e : TypeId} {w : World} {base b n : Nat} {vs : List Value} (h : Ownv e w base (some ⟨b, 0, none⟩) n n vs) : w.heap[b]? = some (.cells vs.toArray e (0, 0)) := by
  obtain ⟨_, h2⟩ := Ownv.cases h
  rcases h2 with ⟨h3, _⟩ | ⟨g, cur, h3, hb, hh, hnc, hcm, hs, ht⟩
  · cases h3
  · cases h3
    have : cur.toList = vs := by
      rw [← List.take_of_length_le (l := cur.toList) (i := n) (by simp [hs])]; exact ht
    rw [hh, show cur = vs.toArray from by rw [← this]]
theorem load_u8x3 {w : World} {base b : Nat} {x y z : Int} (h : Own .u8 87 w base (some ⟨b, 0, none⟩) 3 3 [x, y, z]) : (loadVar 87 ⟨b, 0, none⟩).run Tryz.prog w = .ok (.agg #[.int .u8 x, .int .u8 y, .int .u8 z]) w :=
  run_loadVar_row (P := Tryz.prog) w b 87 87 _ (0, 0) _ (Ownv.row h) Tryz.underlying87 rfl (by kernel_rfl)
theorem Own.set3 {k : IntKind} {e : TypeId} {w : World} {base b : Nat} {vs : List Int} (h : Own k e w base (some ⟨b, 0, none⟩) 3 3 vs) (x y z : Int) :
    Own k e (((w.setCell ⟨b, 0, none⟩ (.int k x)).setCell ⟨b, 1, none⟩ (.int k y)).setCell ⟨b, 2, none⟩ (.int k z)) base (some ⟨b, 0, none⟩) 3 3 [x, y, z] ∧ w.grownBy (((w.setCell ⟨b, 0, none⟩ (.int k x)).setCell ⟨b, 1, none⟩ (.int k y)).setCell ⟨b, 2, none⟩ (.int k z)) (some b) := by
  have h0 := Own.set_ h (j := 0) (by omega) x
  have h1 := Own.set_ h0.1 (j := 1) (by omega) y
  have h2 := Own.set_ h1.1 (j := 2) (by omega) z
  simp only [adr_some, Nat.zero_add] at h0 h1 h2
  have hl := (Own.rd h).len
  refine ⟨?_, (h0.2.trans h1.2).trans h2.2⟩
  have e1 : ((vs.set 0 x).set 1 y).set 2 z = [x, y, z] := by
    match vs, hl with
    | [p, q, r], _ => rfl
  rw [← e1]; exact h2.1
def TailInv (a b c : Bool) (w : World) (o : Nat) (i : Value) (wr : World) : Prop :=
  ∃ (j : Nat) (A : Option Addr) (cp : Nat) (ps : List Bool), j ≤ 3 ∧ i = .int .i64 j ∧ Arr3 wr w.heap.size w.heap.size (tlU a b c) j ∧ Arr3 wr w.heap.size (w.heap.size + 1) (tlZ a b c) j ∧
    EncSt (w.heap.size + 2) wr o (tlS a b c j).1 (tlS a b c j).2.1 (tlS a b c j).2.2 A j cp ps ∧ Below w.heap.size w wr
theorem tail_next (a b c : Bool) (w w2 w4 : World) (o j : Nat) (hj : j < 3) (vu vz : List Int) (A4 : Option Addr) (cp4 : Nat) (ps : List Bool) (s' : St3) (hs : tlS a b c (j + 1) = s')
    (hU : Own .u8 87 w2 w.heap.size (some ⟨w.heap.size, 0, none⟩) 3 3 vu) (hqu : ∀ q, q < j → gi vu q = ib (tlU a b c q))
    (hZ : Own .u8 87 w2 w.heap.size (some ⟨w.heap.size + 1, 0, none⟩) 3 3 vz) (hqz : ∀ q, q < j → gi vz q = ib (tlZ a b c q))
    (hB2 : Below w.heap.size w w2) (hB4 : Below (w.heap.size + 2) w2 w4) (hS4 : EncSt (w.heap.size + 2) w4 o s'.1 s'.2.1 s'.2.2 A4 (j + 1) cp4 ps) (iu iz : Int) (hiu : ib (tlU a b c j) = iu) (hiz : ib (tlZ a b c j) = iz) :
    TailInv a b c w o (.int .i64 ((j + 1 : Nat) : Int)) ((w4.setCell (adr (some ⟨w.heap.size, 0, none⟩) j) (.int .u8 iu)).setCell (adr (some ⟨w.heap.size + 1, 0, none⟩) j) (.int .u8 iz)) := by
  have u1 := Ownv.keepB hU hB4 (by omega)
  have z1 := Ownv.keepB hZ hB4 (by omega)
  have u2 := Own.set_ u1 hj iu
  have z2 : Own .u8 87 _ w.heap.size (some ⟨w.heap.size + 1, 0, none⟩) 3 3 vz := Ownv.grown z1 u2.2 (fun _ he => by have := Option.some.inj he; simp [blk] at this)
  have z3 := Own.set_ z2 hj iz
  have u3 : Own .u8 87 _ w.heap.size (some ⟨w.heap.size, 0, none⟩) 3 3 (vu.set j iu) := Ownv.grown u2.1 z3.2 (fun _ he => by have := Option.some.inj he; simp [blk] at this)
  have hlu := (Own.rd hU).len
  have hlz := (Own.rd hZ).len
  have hbw := hB2.size
  have h4 : Below w.heap.size w w4 := hB2.trans (hB4.mono (by omega))
  have h5 := h4.grown u2.2 h4.size (fun k hk => by have := Option.some.inj hk; simp [blk] at this; omega)
  have h6 := h5.grown z3.2 h5.size (fun k hk => by have := Option.some.inj hk; simp [blk] at this; omega)
  have sg : ∀ {W W' : World} {g : Nat}, g < w.heap.size + 2 → EncSt (w.heap.size + 2) W o s'.1 s'.2.1 s'.2.2 A4 (j + 1) cp4 ps → W.grownBy W' (some g) → EncSt (w.heap.size + 2) W' o s'.1 s'.2.1 s'.2.2 A4 (j + 1) cp4 ps := by
    intro W W' g hg h hgr
    have ho := (Ownv.blk_ge h.obj (by omega)).1
    simp [blk] at ho
    exact ⟨Ownv.grown h.obj hgr (fun _ he => by have := Option.some.inj he; simp [blk] at this; omega), Ownv.grown h.row hgr (fun hA he => by have h8 := (Ownv.blk_of h.row hA).1; have := Option.some.inj he; omega), h.ne, Nat.le_trans h.le hgr.size⟩
  refine ⟨j + 1, A4, cp4, ps, by omega, rfl, ⟨_, u3, fun q hq => ?_⟩, ⟨_, z3.1, fun q hq => ?_⟩, by rw [hs]; exact sg (by simp [blk]) (sg (by simp [blk]) hS4 u2.2) z3.2, h6⟩
  · rw [gi_set _ _ _ _ (by omega)]
    by_cases e : j = q
    · subst e; rw [if_pos rfl, hiu]
    · rw [if_neg e]; exact hqu q (by omega)
  · rw [gi_set _ _ _ _ (by omega)]
    by_cases e : j = q
    · subst e; rw [if_pos rfl, hiz]
    · rw [if_neg e]; exact hqz q (by omega)
theorem stI_bd (a b c : Bool) : 0 ≤ stI a b c ∧ stI a b c < 8 := by cases a <;> cases b <;> cases c <;> decide
set_option maxRecDepth 100000 in
set_option maxHeartbeats 600000 in
theorem tail_any (a b c : Bool) (w : World) : Calls Tryz.prog 94 #[.int .i64 (stI a b c)] w fun e w' =>
    e = .returned (.tuple #[.agg #[.int .u8 (ib (tlU a b c 0)), .int .u8 (ib (tlU a b c 1)), .int .u8 (ib (tlU a b c 2))], .agg #[.int .u8 (ib (tlZ a b c 0)), .int .u8 (ib (tlZ a b c 1)), .int .u8 (ib (tlZ a b c 2))], .int .i64 0]) ∧ Below w.heap.size w w' := by
  obtain ⟨h0, h1⟩ := stI_bd a b c
  have hr := fun W => Lib.hid (regat_any a b c W)
  have hd : decide (0 ≤ stI a b c ∧ stI a b c < 8) = true := by simp; omega
  have hf := fun W => Lib.hid (fits_any (stI a b c) W)
  rw [hd] at hf
  unfold regV at hr
  go_enter Tryz.func94, Tryz.ntmps94
  go_wp2_with (first
    | (go_at_call 129; refine (hf _).out.mono ?_; rintro e w' ⟨rfl, rfl⟩)
    | (go_at_call 130; refine (hr _).out.mono ?_; rintro e w1 ⟨rfl, hB1⟩))
  have hob : Ownv 171 (w1.alloc (.cells #[.int .i64 (ib a), .int .i64 (ib b), .int .i64 (ib c), .slice none 0 0] 171)) w1.heap.size (some ⟨w1.heap.size, 0, none⟩) 4 4 [.int .i64 (ib a), .int .i64 (ib b), .int .i64 (ib c), .slice none 0 0] :=
    Ownv.lit w1 #[.int .i64 (ib a), .int .i64 (ib b), .int .i64 (ib c), .slice none 0 0] 171 rfl (Nat.le_refl _) (by show 4 ≤ maxLen; unfold maxLen; omega)
  have hsz : w.heap.size + 2 ≤ w1.heap.size := by have := hB1.size; simpa using this
  have hst : EncSt (w.heap.size + 2) (w1.alloc (.cells #[.int .i64 (ib a), .int .i64 (ib b), .int .i64 (ib c), .slice none 0 0] 171)) w1.heap.size a b c none 0 0 [] := ⟨hob.mono hsz, Own.nilv _ _ _ _, fun h => absurd rfl h, by simp; omega⟩
  have hA : ∀ f, Arr3 (w1.alloc (.cells #[.int .i64 (ib a), .int .i64 (ib b), .int .i64 (ib c), .slice none 0 0] 171)) w.heap.size w.heap.size f 0 := fun f =>
    ⟨[0, 0, 0], Ownv.alloc (Ownv.below (Ownv.alloc (Own.of_eq (Ownv.lit w #[.int .u8 0, .int .u8 0, .int .u8 0] 87 rfl (Nat.le_refl _) (by show 3 ≤ maxLen; unfold maxLen; omega)) rfl rfl) _) hB1) _, by intro q hq; omega⟩
  have hA2 : ∀ f, Arr3 (w1.alloc (.cells #[.int .i64 (ib a), .int .i64 (ib b), .int .i64 (ib c), .slice none 0 0] 171)) w.heap.size (w.heap.size + 1) f 0 := fun f =>
    ⟨[0, 0, 0], Ownv.alloc (Ownv.below (Own.of_eq (Ownv.lit (w.alloc _) #[.int .u8 0, .int .u8 0, .int .u8 0] 87 (by simp) (by simp) (by show 3 ≤ maxLen; unfold maxLen; omega)) rfl rfl) hB1) _, by intro q hq; omega⟩
  have hB0 : Below w.heap.size w (w1.alloc (.cells #[.int .i64 (ib a), .int .i64 (ib b), .int .i64 (ib c), .slice none 0 0] 171)) := ((((Below.refl _ w).alloc (Nat.le_refl _) _).alloc (by simp) _).trans (hB1.mono (by simp; omega))).alloc (by omega) _
  go_loopw [16] (fun i wr => TailInv a b c w w1.heap.size i wr) (fun i _ => 3 - (intOf i).toNat)
  case atStart => exact ⟨0, none, 0, [], by omega, rfl, hA _, hA2 _, hst, hB0⟩
  case round =>
    obtain ⟨j, A, cp, ps, hj, rfl, hU, hZ, hst', hB⟩ := hrel
    clear hst hA hA2 hB0 hob hf hr
    generalize w1.heap.size = o at *
    by_cases hlt : j < 3
    · obtain ⟨q1, q2, q3⟩ := tl_step a b c j hlt
      have hub : 0 ≤ ib (tlU a b c j) ∧ ib (tlU a b c j) ≤ 1 := by cases tlU a b c j <;> decide
      have hzb : 0 ≤ ib (tlZ a b c j) ∧ ib (tlZ a b c j) ≤ 1 := by cases tlZ a b c j <;> decide
      have hwu : IntKind.u8.wrap (ib (tlU a b c j)) = ib (tlU a b c j) := by cases tlU a b c j <;> decide
      have hwz : IntKind.u8.wrap (ib (tlZ a b c j)) = ib (tlZ a b c j) := by cases tlZ a b c j <;> decide
      have Q1 := Lib.hid q1
      have Q2 := Lib.hid q2
      clear q1 q2
      generalize tlS a b c j = s at *
      generalize hs' : tlS a b c (j + 1) = s' at *
      have HE := fun W => Lib.hid (ending_any s.1 s.2.1 s.2.2 W)
      rw [q3] at HE
      clear q3
      have HSZ := Lib.hid hst'.le
      obtain ⟨vu, hOu, hqu⟩ := hU
      obtain ⟨vz, hOz, hqz⟩ := hZ
      have HT : ∀ W, EncSt (w.heap.size + 2) W o s.1 s.2.1 s.2.2 A j cp ps → Hid (Calls Tryz.prog 127 #[.pointer (some ⟨o, 0, none⟩), .int .i64 (ib (tlU a b c j))] W fun e w' => e = .returned (.int .i64 (ib (tlZ a b c j))) ∧ (∃ A' cp', EncSt (w.heap.size + 2) w' o s'.1 s'.2.1 s'.2.2 A' (j + 1) cp' (ps ++ [tlZ a b c j])) ∧ Below (w.heap.size + 2) W w') := fun W hW => Lib.hid (by
        have := takes_any (w.heap.size + 2) o s.1 s.2.1 s.2.2 (tlU a b c j) A j cp ps W hW (by omega)
        have e1 : (tlU a b c j ^^ s.2.1 ^^ s.2.2 ^^ s.1 ^^ s.2.2) = tlZ a b c j := Q2.out
        rw [e1] at this
        refine this.mono ?_
        rintro e w' ⟨h1, ⟨A', cp', h2⟩, h3⟩
        refine ⟨h1, ⟨A', cp', ?_⟩, h3⟩
        have e2 : s' = (tlU a b c j ^^ s.2.1 ^^ s.2.2, s.1, s.2.1) := Q1.out.symm
        rw [e2]; exact h2)
      have HU := Lib.hid hqu
      have HZ := Lib.hid hqz
      have HST := Lib.hid hst'
      obtain ⟨c0, c1, c2, c3, f0, f1, f2, f3⟩ := hst'.facts
      have HQ := Lib.hid hs'
      clear hqu hqz hst' hs'
      generalize hiu : ib (tlU a b c j) = iu at *
      generalize hiz : ib (tlZ a b c j) = iz at *
      have HIU := Lib.hid hiu
      have HIZ := Lib.hid hiz
      have HB := Lib.hid hB
      clear hiu hiz hB
      unfold regV at HE
      rcases (by omega : j = 0 ∨ j = 1 ∨ j = 2) with rfl | rfl | rfl
      all_goals try simp only [Int.ofNat_zero, Int.ofNat_one, Int.cast_ofNat_Int]
      · have hcu := Rd.cell (Own.rd hOu) hlt
        have hcz := Rd.cell (Own.rd hOz) hlt
        have hfu := Ownv.frozen hOu (by omega) 0
        have hfz := Ownv.frozen hOz (by omega) 0
        simp only [adr_some, Nat.zero_add] at hcu hcz hfu hfz
        go_wp2_with (go_at_call 131; refine (HE _).out.mono ?_; rintro e w2 ⟨rfl, hB2⟩)
        have HB2 := Lib.hid (HB.out.trans (hB2.mono HB.out.size))
        have hU2 := Ownv.below hOu hB2
        have hZ2 := Ownv.below hOz hB2
        have hS2 := HST.out.below hB2
        have HU2 := Lib.hid hU2
        have HZ2 := Lib.hid hZ2
        have HS2 := Lib.hid hS2
        have hcu2 := Rd.cell (Own.rd hU2) hlt
        have hcz2 := Rd.cell (Own.rd hZ2) hlt
        have hfu2 := Ownv.frozen hU2 (by omega) 0
        have hfz2 := Ownv.frozen hZ2 (by omega) 0
        simp only [adr_some, Nat.zero_add] at hcu2 hcz2 hfu2 hfz2
        clear hU2 hZ2 hS2 hOu hOz hcu hcz hfu hfz c0 c1 c2 c3 f0 f1 f2 f3 hB2
        go_region_with (go_at_call 127; refine (HT _ ?_).out.mono ?_; exact HS2.out.below (Below.refl _ _).drew; rintro e w4 ⟨rfl, ⟨A4, cp4, hS4⟩, hB4⟩; have g1 := hB4.cell (p := ⟨w.heap.size, 0, none⟩) (by simp); have g2 := hB4.frozen (p := ⟨w.heap.size, 0, none⟩) (by simp); have g3 := hB4.cell (p := ⟨w.heap.size + 1, 0, none⟩) (by simp); have g4 := hB4.frozen (p := ⟨w.heap.size + 1, 0, none⟩) (by simp))
        have HBd := Lib.hid ((Below.refl (w.heap.size + 2) w2).drew.trans hB4)
        have HS4 := Lib.hid hS4
        clear hB4 hS4 g1 g2 g3 g4 hcu2 hcz2 hfu2 hfz2
        go_wp2
        go_roundw
        case rel => exact tail_next a b c w w2 w4 o 0 hlt vu vz A4 cp4 _ s' HQ.out HU2.out HU.out HZ2.out HZ.out HB2.out HBd.out HS4.out iu iz HIU.out HIZ.out
        case measure => simp [intOf]
      · have hcu := Rd.cell (Own.rd hOu) hlt
        have hcz := Rd.cell (Own.rd hOz) hlt
        have hfu := Ownv.frozen hOu (by omega) 1
        have hfz := Ownv.frozen hOz (by omega) 1
        simp only [adr_some, Nat.zero_add] at hcu hcz hfu hfz
        go_wp2_with (go_at_call 131; refine (HE _).out.mono ?_; rintro e w2 ⟨rfl, hB2⟩)
        have HB2 := Lib.hid (HB.out.trans (hB2.mono HB.out.size))
        have hU2 := Ownv.below hOu hB2
        have hZ2 := Ownv.below hOz hB2
        have hS2 := HST.out.below hB2
        have HU2 := Lib.hid hU2
        have HZ2 := Lib.hid hZ2
        have HS2 := Lib.hid hS2
        have hcu2 := Rd.cell (Own.rd hU2) hlt
        have hcz2 := Rd.cell (Own.rd hZ2) hlt
        have hfu2 := Ownv.frozen hU2 (by omega) 1
        have hfz2 := Ownv.frozen hZ2 (by omega) 1
        simp only [adr_some, Nat.zero_add] at hcu2 hcz2 hfu2 hfz2
        clear hU2 hZ2 hS2 hOu hOz hcu hcz hfu hfz c0 c1 c2 c3 f0 f1 f2 f3 hB2
        go_region_with (go_at_call 127; refine (HT _ ?_).out.mono ?_; exact HS2.out.below (Below.refl _ _).drew; rintro e w4 ⟨rfl, ⟨A4, cp4, hS4⟩, hB4⟩; have g1 := hB4.cell (p := ⟨w.heap.size, 1, none⟩) (by simp); have g2 := hB4.frozen (p := ⟨w.heap.size, 1, none⟩) (by simp); have g3 := hB4.cell (p := ⟨w.heap.size + 1, 1, none⟩) (by simp); have g4 := hB4.frozen (p := ⟨w.heap.size + 1, 1, none⟩) (by simp))
        have HBd := Lib.hid ((Below.refl (w.heap.size + 2) w2).drew.trans hB4)
        have HS4 := Lib.hid hS4
        clear hB4 hS4 g1 g2 g3 g4 hcu2 hcz2 hfu2 hfz2
        go_wp2
        go_roundw
        case rel => exact tail_next a b c w w2 w4 o 1 hlt vu vz A4 cp4 _ s' HQ.out HU2.out HU.out HZ2.out HZ.out HB2.out HBd.out HS4.out iu iz HIU.out HIZ.out
        case measure => simp [intOf]
      · have hcu := Rd.cell (Own.rd hOu) hlt
        have hcz := Rd.cell (Own.rd hOz) hlt
        have hfu := Ownv.frozen hOu (by omega) 2
        have hfz := Ownv.frozen hOz (by omega) 2
        simp only [adr_some, Nat.zero_add] at hcu hcz hfu hfz
        go_wp2_with (go_at_call 131; refine (HE _).out.mono ?_; rintro e w2 ⟨rfl, hB2⟩)
        have HB2 := Lib.hid (HB.out.trans (hB2.mono HB.out.size))
        have hU2 := Ownv.below hOu hB2
        have hZ2 := Ownv.below hOz hB2
        have hS2 := HST.out.below hB2
        have HU2 := Lib.hid hU2
        have HZ2 := Lib.hid hZ2
        have HS2 := Lib.hid hS2
        have hcu2 := Rd.cell (Own.rd hU2) hlt
        have hcz2 := Rd.cell (Own.rd hZ2) hlt
        have hfu2 := Ownv.frozen hU2 (by omega) 2
        have hfz2 := Ownv.frozen hZ2 (by omega) 2
        simp only [adr_some, Nat.zero_add] at hcu2 hcz2 hfu2 hfz2
        clear hU2 hZ2 hS2 hOu hOz hcu hcz hfu hfz c0 c1 c2 c3 f0 f1 f2 f3 hB2
        go_region_with (go_at_call 127; refine (HT _ ?_).out.mono ?_; exact HS2.out.below (Below.refl _ _).drew; rintro e w4 ⟨rfl, ⟨A4, cp4, hS4⟩, hB4⟩; have g1 := hB4.cell (p := ⟨w.heap.size, 2, none⟩) (by simp); have g2 := hB4.frozen (p := ⟨w.heap.size, 2, none⟩) (by simp); have g3 := hB4.cell (p := ⟨w.heap.size + 1, 2, none⟩) (by simp); have g4 := hB4.frozen (p := ⟨w.heap.size + 1, 2, none⟩) (by simp))
        have HBd := Lib.hid ((Below.refl (w.heap.size + 2) w2).drew.trans hB4)
        have HS4 := Lib.hid hS4
        clear hB4 hS4 g1 g2 g3 g4 hcu2 hcz2 hfu2 hfz2
        go_wp2
        go_roundw
        case rel => exact tail_next a b c w w2 w4 o 2 hlt vu vz A4 cp4 _ s' HQ.out HU2.out HU.out HZ2.out HZ.out HB2.out HBd.out HS4.out iu iz HIU.out HIZ.out
        case measure => simp [intOf]
    · obtain rfl : j = 3 := by omega
      have HU := Lib.hid hU.vals
      have HZ := Lib.hid hZ.vals
      have u0 := Rd.cell (Own.rd HU.out) (j := 0) (by omega)
      have u1 := Rd.cell (Own.rd HU.out) (j := 1) (by omega)
      have u2 := Rd.cell (Own.rd HU.out) (j := 2) (by omega)
      have z0 := Rd.cell (Own.rd HZ.out) (j := 0) (by omega)
      have z1 := Rd.cell (Own.rd HZ.out) (j := 1) (by omega)
      have z2 := Rd.cell (Own.rd HZ.out) (j := 2) (by omega)
      have fu0 := Ownv.frozen HU.out (by omega) 0
      have fu1 := Ownv.frozen HU.out (by omega) 1
      have fu2 := Ownv.frozen HU.out (by omega) 2
      have fz0 := Ownv.frozen HZ.out (by omega) 0
      have fz1 := Ownv.frozen HZ.out (by omega) 1
      have fz2 := Ownv.frozen HZ.out (by omega) 2
      have gi0 : ∀ x y z, gi [x, y, z] 0 = x := fun _ _ _ => rfl
      have gi1 : ∀ x y z, gi [x, y, z] 1 = y := fun _ _ _ => rfl
      have gi2 : ∀ x y z, gi [x, y, z] 2 = z := fun _ _ _ => rfl
      simp only [gi0, gi1, gi2] at u0 u1 u2 z0 z1 z2
      simp only [adr_some, Nat.zero_add] at u0 u1 u2 z0 z1 z2 fu0 fu1 fu2 fz0 fz1 fz2
      clear gi0 gi1 gi2 hst' hU hZ
      have HB := Lib.hid hB
      clear hB
      go_wp2
      go_region
      go_wp2
      have s1 := Own.set3 HU.out (ib (tlU a b c 0)) (ib (tlU a b c 1)) (ib (tlU a b c 2))
      have hne : (some (blk (some ⟨w.heap.size + 1, 0, none⟩))) ≠ some w.heap.size := fun he => by have := Option.some.inj he; simp [blk] at this
      have hne' : (some (blk (some ⟨w.heap.size, 0, none⟩))) ≠ some (w.heap.size + 1) := fun he => by have := Option.some.inj he; simp [blk] at this
      have s2 := Own.set3 (Ownv.grown HZ.out s1.2 (fun _ => hne)) (ib (tlZ a b c 0)) (ib (tlZ a b c 1)) (ib (tlZ a b c 2))
      have s3 : Own .u8 87 _ _ _ 3 3 [(ib (tlU a b c 0)), (ib (tlU a b c 1)), (ib (tlU a b c 2))] := Ownv.grown s1.1 s2.2 (fun _ => hne')
      have b1 := HB.out.grown s1.2 HB.out.size (fun k hk => by have := Option.some.inj hk; omega)
      have b2 := b1.grown s2.2 b1.size (fun k hk => by have := Option.some.inj hk; omega)
      refine bodyPost_ret (v := .tuple #[.agg #[.int .u8 (ib (tlU a b c 0)), .int .u8 (ib (tlU a b c 1)), .int .u8 (ib (tlU a b c 2))], .agg #[.int .u8 (ib (tlZ a b c 0)), .int .u8 (ib (tlZ a b c 1)), .int .u8 (ib (tlZ a b c 2))], .int .i64 0]) ?_ rfl ⟨rfl, b2.drew⟩
      rw [results_cct rfl]
      have l1 := load_u8x3 (Ownv.drew s3)
      have l2 := load_u8x3 (Ownv.drew s2.1)
      simp [asAddr, l1, l2, Sem.run_pure]
end Go.Proofs.YtcbbkflnenkpgaaGreat.Tu

namespace Go.Proofs.YtcbbkflnenkpgaaGreat.Tu
open Go.RowKit
set_option linter.unusedVariables false
theorem el62 : El Tryz.prog 28 25 (.slice none 0 0) 24 := ⟨by kernel_rfl, by kernel_rfl, fun _ => by kernel_rfl, rfl⟩
/-- x[:m:m] -/
theorem Rdv.slhm {P : Program} {w : World} {A : Option Addr} {n c : Nat} {vs : List Value} (h : Rdv w A n c vs) {t e : TypeId} {z : Value} {bytes : Nat} (E : El P t e z bytes) (kh km : IntKind) {m : Nat} (hm : m ≤ c) (W : World) :
    (Instr.sliceAt t (.slice A n c) none (some (.int kh (m : Int))) (some (.int km (m : Int)))).run P W = .ok (.slice A m m) W := by
  have e1 : P.underlying t = some (.slice (P.elem t)) := by rw [E.u]; simp [Program.elem, E.u]
  have e2 : P.elem t = e := by simp [Program.elem, E.u]
  rw [run_sliceAt_slice W t _ _ _ _ e1, run_slice_hm W t A n c e1 kh km m m (by omega) (by omega) (by omega), e2, E.s]
  simp only [Result.andThen_ok, Int.toNat_natCast, sliced, Nat.zero_mul, Nat.sub_zero]
  congr 2
  split
  · rfl
  · cases A <;> simp [Addr.add]
theorem Rdv.capn {w : World} {A : Option Addr} {n c : Nat} {vs : List Value} (h : Rdv w A n c vs) : Rdv w A n n vs := by
  have hle := h.le
  exact ⟨h.len, Nat.le_refl _, Nat.le_trans hle h.cm, fun e => by have := h.nil e; omega, fun hn => h.spot (by omega), fun hn => h.lt (by omega), h.at_⟩
def tailV (x : Nat → Int) : Value := .agg #[.int .u8 (x 0), .int .u8 (x 1), .int .u8 (x 2), .int .u8 (x 3), .int .u8 (x 4), .int .u8 (x 5)]
theorem at_any51 (x : Nat → Int) (i p : Nat) (hip : (i = 0 ∧ p = 1) ∨ (i = 2 ∧ p = 0) ∨ (i = 1 ∧ p = 2)) (w : World) :
    Calls Tryz.prog 97 #[tailV x, .int .i64 (i : Int), .int .i64 (p : Int)] w fun e w' => e = .returned (.tuple #[.int .u8 (x i), .int .u8 (x (3 + p))]) ∧ Below w.heap.size w w' := by
  unfold tailV
  rcases hip with ⟨rfl, rfl⟩ | ⟨rfl, rfl⟩ | ⟨rfl, rfl⟩
  all_goals (
    go_enter Tryz.func97, Tryz.ntmps97
    go_wp2
    go_quiet (fail)
    go_wp2
    go_ret2
    exact ⟨rfl, ((Below.refl _ w).alloc (Nat.le_refl _) _).trans (by first | exact Below.refl _ _ | exact Qt.below ⟨_, rfl⟩ _)⟩)
def endL (x : Nat → Int) (j : Nat) : List Int := if j = 0 then [x 0, x 4] else if j = 1 then [x 3, x 2] else [x 1, x 5]
theorem ending_any31 (x : Nat → Int) (j : Nat) (hj : j < 3) (w : World) :
    Calls Tryz.prog 55 #[tailV x, .int .i64 (j : Int)] w fun e w' => ∃ A, e = .returned (.slice A 2 2) ∧ Own .u8 5 w' w.heap.size A 2 2 (endL x j) ∧ Below w.heap.size w w' := by
  have h0 := fun W => Lib.hid (at_any51 x 0 1 (by omega) W)
  have h1 := fun W => Lib.hid (at_any51 x 2 0 (by omega) W)
  have h2 := fun W => Lib.hid (at_any51 x 1 2 (by omega) W)
  unfold tailV at *
  rcases (by omega : j = 0 ∨ j = 1 ∨ j = 2) with rfl | rfl | rfl
  · go_enter Tryz.func55, Tryz.ntmps55
    go_wp2_with (go_at_call 97; refine (h0 _).out.mono ?_; rintro e w1 ⟨rfl, hB⟩)
    go_ret
    exact ⟨_, rfl, (Own.of_eq (Ownv.lit w1 #[.int .u8 (x 0), .int .u8 (x 4)] 5 rfl (by have := hB.size; simp at this; omega) (by show 2 ≤ maxLen; unfold maxLen; omega)) rfl rfl), (((Below.refl _ w).alloc (Nat.le_refl _) _).trans (hB.mono (by simp))).alloc (by have := hB.size; simp at this; omega) _⟩
  · go_enter Tryz.func55, Tryz.ntmps55
    go_wp2_with (go_at_call 97; refine (h1 _).out.mono ?_; rintro e w1 ⟨rfl, hB⟩)
    go_ret
    exact ⟨_, rfl, (Own.of_eq (Ownv.lit w1 #[.int .u8 (x 3), .int .u8 (x 2)] 5 rfl (by have := hB.size; simp at this; omega) (by show 2 ≤ maxLen; unfold maxLen; omega)) rfl rfl), (((Below.refl _ w).alloc (Nat.le_refl _) _).trans (hB.mono (by simp))).alloc (by have := hB.size; simp at this; omega) _⟩
  · go_enter Tryz.func55, Tryz.ntmps55
    go_wp2_with (go_at_call 97; refine (h2 _).out.mono ?_; rintro e w1 ⟨rfl, hB⟩)
    go_ret
    exact ⟨_, rfl, (Own.of_eq (Ownv.lit w1 #[.int .u8 (x 1), .int .u8 (x 5)] 5 rfl (by have := hB.size; simp at this; omega) (by show 2 ≤ maxLen; unfold maxLen; omega)) rfl rfl), (((Below.refl _ w).alloc (Nat.le_refl _) _).trans (hB.mono (by simp))).alloc (by have := hB.size; simp at this; omega) _⟩
def stN (n m j : Nat) : Nat := if j = 0 then 0 else if j = 1 then n else n + m
def stX (xs ys : List Int) (j : Nat) : List Int := if j = 0 then [] else if j = 1 then xs else xs ++ ys
def StreamInv (w : World) (n m : Nat) (xs ys : List Int) (i o : Value) (wr : World) : Prop :=
  ∃ (j : Nat) (A : Option Addr) (c : Nat), j ≤ 2 ∧ i = .int .i64 j ∧ o = .slice A (stN n m j) c ∧ Own .u8 5 wr w.heap.size A (stN n m j) c (stX xs ys j) ∧ Below w.heap.size w wr
set_option maxHeartbeats 400000 in
set_option maxRecDepth 100000 in
theorem stream2_any (O A B : Option Addr) (n c m d : Nat) (xs ys : List Int) (w : World) (hp : Rdv w O 2 2 [.slice A n c, .slice B m d]) (hx : Rd .u8 w A n c xs) (hy : Rd .u8 w B m d ys) (hn : n ≤ 100000) (hm : m ≤ 100000) :
    Calls Tryz.prog 54 #[.slice O 2 2] w fun e w' => ∃ A' c', e = .returned (.slice A' (n + m) c') ∧ Own .u8 5 w' w.heap.size A' (n + m) c' (xs ++ ys) ∧ Below w.heap.size w w' := by
  have sx := fun W => Rdv.slhm hx el22 .i64 .i64 (Rdv.le hx) W
  have sy := fun W => Rdv.slhm hy el22 .i64 .i64 (Rdv.le hy) W
  go_enter Tryz.func54, Tryz.ntmps54
  go_wp2
  go_loopw [7, 2] (fun i o wr => StreamInv w n m xs ys i o wr) (fun i _ _ => 2 - (intOf i).toNat)
  case atStart => exact ⟨0, none, 0, by omega, rfl, rfl, Own.nilv _ _ _ _, Below.refl _ _⟩
  case round =>
    obtain ⟨j, A1, c1, hj, rfl, rfl, hO, hB⟩ := hrel
    have hp1 := Rdv.below hp hB
    have hsz := hB.size
    rcases (by omega : j = 0 ∨ j = 1 ∨ j = 2) with rfl | rfl | rfl
    · have hix := fun W => Rdv.ixI hp1 el62 (j := 0) (by omega) .i64 0 rfl W
      have hcell := hp1.at_ 0 _ rfl
      have hxx := Rdv.capn (Rdv.below hx hB)
      have e0 : stN n m 0 = 0 := rfl
      have e1 : stX xs ys 0 = [] := rfl
      rw [e0, e1] at hO
      rw [e0]
      clear e0 e1
      go_wp2_with (at_builtin; refine list_of rfl fun K hK => wp_app _ _ 25 rfl el22 rfl rfl hO hxx (oneCell_ints .u8 xs) (by omega) (by unfold maxLen; omega) hsz ?_; intro A' c' w' hO' hg; refine hK _ _ ?_; clear hK K)
      go_roundw
      case rel => exact ⟨1, A', c', by omega, rfl, by simp [stN], by rw [Nat.zero_add] at hO'; exact hO', hB.grown hg hsz (fun k hk => Ownv.ob' hO hk)⟩
      case measure => simp [intOf]
    · have hix := fun W => Rdv.ixI hp1 el62 (j := 1) (by omega) .i64 1 rfl W
      have hcell := hp1.at_ 1 _ rfl
      have hyy := Rdv.capn (Rdv.below hy hB)
      have e0 : stN n m 1 = n := rfl
      have e1 : stX xs ys 1 = xs := rfl
      rw [e0, e1] at hO
      rw [e0]
      clear e0 e1
      go_wp2_with (at_builtin; refine list_of rfl fun K hK => wp_app _ _ 25 rfl el22 rfl rfl hO hyy (oneCell_ints .u8 ys) (by omega) (by unfold maxLen; omega) hsz ?_; intro A' c' w' hO' hg; refine hK _ _ ?_; clear hK K)
      go_roundw
      case rel => exact ⟨2, A', c', by omega, rfl, by simp [stN], Own.of_eq hO' rfl (by simp [stX]), hB.grown hg hsz (fun k hk => Ownv.ob' hO hk)⟩
      case measure => simp [intOf]
    · go_wp2
      go_ret
      exact ⟨A1, c1, rfl, hO, hB⟩
end Go.Proofs.YtcbbkflnenkpgaaGreat.Tu

namespace Go.Proofs.YtcbbkflnenkpgaaGreat.Tu
open Go.RowKit
set_option linter.unusedVariables false
/-- Values stored cell by cell. -/
def putC (w : World) (b : Nat) : Nat → List Value → World
  | _, [] => w
  | j, v :: l => putC (w.setCell ⟨b, j, none⟩ v) b (j + 1) l
theorem Ownv.putC_ {e : TypeId} {base b n c : Nat} : ∀ (l : List Value) {w : World} {vs : List Value} (j : Nat), Ownv e w base (some ⟨b, 0, none⟩) n c vs → j + l.length ≤ n → Ownv e (putC w b j l) base (some ⟨b, 0, none⟩) n c (vs.take j ++ l ++ vs.drop (j + l.length)) ∧ w.grownBy (putC w b j l) (some b)
  | [], w, vs, j, h, hj => ⟨by simpa [putC] using h, World.grownBy.refl _ _⟩
  | v :: l, w, vs, j, h, hj => by
    have hl := h.rd.len
    simp only [List.length_cons] at hj
    have h1 := Ownv.set_ h (j := j) (by omega) v
    simp only [adr_some, Nat.zero_add] at h1
    have h2 := Ownv.putC_ l (j + 1) h1.1 (by omega)
    refine ⟨?_, h1.2.trans h2.2⟩
    have e1 : (vs.set j v).take (j + 1) ++ l ++ (vs.set j v).drop (j + 1 + l.length) = vs.take j ++ (v :: l) ++ vs.drop (j + (v :: l).length) := by
      rw [List.take_add_one, List.take_set_of_le (Nat.le_refl j), List.getElem?_set_self (by omega), List.drop_set_of_lt (by omega)]
      simp only [Option.toList_some, List.append_assoc, List.cons_append, List.nil_append, List.length_cons]
      rw [show j + 1 + l.length = j + (l.length + 1) by omega]
    rw [← e1]
    exact h2.1
theorem Ownv.putAll {e : TypeId} {base b n c : Nat} (l : List Value) {w : World} {vs : List Value} (h : Ownv e w base (some ⟨b, 0, none⟩) n c vs) (hl : l.length = n) : Ownv e (putC w b 0 l) base (some ⟨b, 0, none⟩) n c l ∧ w.grownBy (putC w b 0 l) (some b) := by
  have := Ownv.putC_ l 0 h (by omega)
  have hv := h.rd.len
  rw [List.take_zero, List.nil_append, Nat.zero_add, List.drop_of_length_le (by omega), List.append_nil] at this
  exact this
def tlI (s : St3) (j : Nat) : Int := if j < 3 then ib (tu s j) else ib (tz s (j - 3))
/-- an encoder behind its input -/
def encL (s : St3) (A : Option Addr) (n c : Nat) : List Value := [.int .u8 (tlI s 0), .int .u8 (tlI s 1), .int .u8 (tlI s 2), .int .u8 (tlI s 3), .int .u8 (tlI s 4), .int .u8 (tlI s 5), .slice A n c]
def encV (s : St3) (A : Option Addr) (n c : Nat) : Value := .agg (encL s A n c).toArray
def enc0 : List Value := [.int .u8 0, .int .u8 0, .int .u8 0, .int .u8 0, .int .u8 0, .int .u8 0, .slice none 0 0]
theorem res28 (a : Array Value) (W : World) (base g : Nat) (l : List Value) (hl : l.length = 7) (E : Int) (h2 : a.getD 2 undef = .pointer (some ⟨g, 0, none⟩)) (h3 : a.getD 3 undef = .int .i64 E) (hO : Ownv 91 W base (some ⟨g, 0, none⟩) 7 7 l) :
    (results Tryz.f52 a).run Tryz.prog W = .ok (.tuple #[.agg l.toArray, .int .i64 E]) W := by
  rw [results_cell_tmp rfl, h2, h3]
  have h9 : (Tryz.prog.info? 91).map (·.size) = some 7 := by kernel_rfl
  have hl := run_loadVar_row (P := Tryz.prog) W g 91 91 _ (0, 0) _ (Ownv.row hO) Tryz.underlying91 rfl (by rw [h9]; simp [hl])
  simp [asAddr, hl, Sem.run_pure]
set_option maxRecDepth 100000 in
set_option maxHeartbeats 600000 in
theorem encoded_bad (A : Option Addr) (n c : Nat) (xs : List Int) (w : World) (h : Rd .u8 w A n c xs) (hv : ValidB xs = false) :
    Calls Tryz.prog 52 #[.slice A n c] w fun e w' => e = .returned (.tuple #[.agg enc0.toArray, .int .i64 3]) ∧ Below w.heap.size w w' := by
  have hO : Ownv 91 (w.alloc (.cells enc0.toArray 91)) w.heap.size (some ⟨w.heap.size, 0, none⟩) 7 7 enc0 := Ownv.lit w enc0.toArray 91 rfl (Nat.le_refl _) (by show 7 ≤ maxLen; unfold maxLen; omega)
  have HO := Lib.hid hO
  have f0 := Ownv.frozen hO (by omega) 0
  have f1 := Ownv.frozen hO (by omega) 1
  have f2 := Ownv.frozen hO (by omega) 2
  have f3 := Ownv.frozen hO (by omega) 3
  have f4 := Ownv.frozen hO (by omega) 4
  have f5 := Ownv.frozen hO (by omega) 5
  have f6 := Ownv.frozen hO (by omega) 6
  clear hO
  have hb := tencode_bad A n c xs _ (Rdv.alloc h (.cells enc0.toArray 91)) hv
  unfold enc0 at hb f0 f1 f2 f3 f4 f5 f6
  simp only [adr_some, Nat.zero_add] at f0 f1 f2 f3 f4 f5 f6
  have HB := Lib.hid hb
  clear hb
  go_enter Tryz.func52, Tryz.ntmps52
  go_wp2_with (go_at_call 93; refine HB.out.mono ?_; rintro e w' ⟨rfl, rfl⟩)
  exact bodyPost_ret (res28 _ _ w.heap.size w.heap.size enc0 rfl 3 rfl rfl HO.out) rfl ⟨rfl, (Below.refl _ w).alloc (Nat.le_refl _) _⟩
set_option maxRecDepth 100000 in
set_option maxHeartbeats 600000 in
theorem encoded_any (A : Option Addr) (n c : Nat) (bs : List Bool) (w : World) (h : Rd .u8 w A n c (bs.map ib)) (hn : n ≤ 100000) :
    Calls Tryz.prog 52 #[.slice A n c] w fun e w' => ∃ A' c', e = .returned (.tuple #[encV (fin bs) A' n c', .int .i64 0]) ∧ Own .u8 5 w' w.heap.size A' n c' ((parL s0 bs).map ib) ∧ Below w.heap.size w w' := by
  have hO : Ownv 91 (w.alloc (.cells enc0.toArray 91)) w.heap.size (some ⟨w.heap.size, 0, none⟩) 7 7 enc0 := Ownv.lit w enc0.toArray 91 rfl (Nat.le_refl _) (by show 7 ≤ maxLen; unfold maxLen; omega)
  have HO := Lib.hid hO
  clear hO
  have he := tencode_any A n c bs _ (Rdv.alloc h (.cells enc0.toArray 91)) hn
  unfold enc0 at he
  have HE := Lib.hid he
  clear he
  have ht := fun W => Lib.hid (tail_any (fin bs).1 (fin bs).2.1 (fin bs).2.2 W)
  unfold fin at *
  generalize hs : List.foldl stp s0 bs = s at *
  generalize hp : (parL s0 bs).map ib = ps at *
  have HP := Lib.hid hp
  have HS := Lib.hid hs
  clear hp hs h
  go_enter Tryz.func52, Tryz.ntmps52
  go_wp2_with fail
  refine HE.out.mono ?_
  rintro e w1 ⟨A1, c1, rfl, hR1, hB1⟩
  have HR1 := Lib.hid hR1
  have hsz : w.heap.size + 1 ≤ w1.heap.size := by have := hB1.size; simpa using this
  have HB1 := Lib.hid hB1
  clear hR1 hB1 HE
  have HO1 := Lib.hid (HO.out.below HB1.out)
  go_wp2_with (go_at_call 94; refine (ht _).out.mono ?_; rintro e w2 ⟨rfl, hB2⟩; have hO2 := ((HO1.out.below hB2).alloc (.cells #[.int .u8 (ib (tlU s.1 s.2.1 s.2.2 0)), .int .u8 (ib (tlU s.1 s.2.1 s.2.2 1)), .int .u8 (ib (tlU s.1 s.2.1 s.2.2 2))] 87)).alloc (.cells #[.int .u8 (ib (tlZ s.1 s.2.1 s.2.2 0)), .int .u8 (ib (tlZ s.1 s.2.1 s.2.2 1)), .int .u8 (ib (tlZ s.1 s.2.1 s.2.2 2))] 87); have hsz2 := hB2.size; have d0 := hO2.rd.at_ 0 _ rfl; have f0 := Ownv.frozen hO2 (by omega) 0; have d1 := hO2.rd.at_ 1 _ rfl; have f1 := Ownv.frozen hO2 (by omega) 1; have d2 := hO2.rd.at_ 2 _ rfl; have f2 := Ownv.frozen hO2 (by omega) 2; have d3 := hO2.rd.at_ 3 _ rfl; have f3 := Ownv.frozen hO2 (by omega) 3; have d4 := hO2.rd.at_ 4 _ rfl; have f4 := Ownv.frozen hO2 (by omega) 4; have d5 := hO2.rd.at_ 5 _ rfl; have f5 := Ownv.frozen hO2 (by omega) 5; have d6 := hO2.rd.at_ 6 _ rfl; have f6 := Ownv.frozen hO2 (by omega) 6; simp only [adr_some, Nat.zero_add] at d0 d1 d2 d3 d4 d5 d6 f0 f1 f2 f3 f4 f5 f6; have HO2 := Lib.hid hO2; have HB2 := Lib.hid hB2; clear hO2 hB2)
  have a2 := Ownv.putAll (encL s A1 n c1) HO2.out rfl
  have b1 : Below w.heap.size w w1 := ((Below.refl _ w).alloc (Nat.le_refl _) _).trans (HB1.out.mono (by simp))
  have b2 : Below w.heap.size w w2 := b1.trans (HB2.out.mono (by omega))
  have b3 := ((b2.alloc (by omega) (.cells #[.int .u8 (ib (tlU s.1 s.2.1 s.2.2 0)), .int .u8 (ib (tlU s.1 s.2.1 s.2.2 1)), .int .u8 (ib (tlU s.1 s.2.1 s.2.2 2))] 87)).alloc (by simp; omega) (.cells #[.int .u8 (ib (tlZ s.1 s.2.1 s.2.2 0)), .int .u8 (ib (tlZ s.1 s.2.1 s.2.2 1)), .int .u8 (ib (tlZ s.1 s.2.1 s.2.2 2))] 87)).grown a2.2 (by simp; omega) (fun k hk => by have := Option.some.inj hk; omega)
  have r1 : Own .u8 5 _ w.heap.size A1 n c1 ps := Ownv.grown (Ownv.alloc (Ownv.alloc (Ownv.below (Ownv.mono HR1.out (by simp)) HB2.out) _) _) a2.2 (fun hA he => by have h8 := (Ownv.blk_of HR1.out hA).1; have := Option.some.inj he; simp at h8; omega)
  refine bodyPost_ret (res28 _ _ w.heap.size w.heap.size (encL s A1 n c1) rfl 0 rfl rfl a2.1) rfl ⟨A1, c1, ?_, ?_, b3⟩
  · rw [← HS.out]; rfl
  · exact r1
end Go.Proofs.YtcbbkflnenkpgaaGreat.Tu

namespace Go.Proofs.YtcbbkflnenkpgaaGreat.Tu
open Go.RowKit
set_option linter.unusedVariables false
theorem valid_len {n : Nat} (h : validK (n : Int) = true) : 40 ≤ n ∧ n ≤ 6144 := by have := valid_bd h; omega
def mixB (bs : List Bool) : List Bool := (List.range bs.length).map fun i => bs.getD (piN bs.length i) false
theorem mixB_len (bs : List Bool) : (mixB bs).length = bs.length := by simp [mixB]
theorem mixR_ib (bs : List Bool) (hv : validK (bs.length : Int) = true) : mixR (bs.map ib) = (mixB bs).map ib := by
  unfold mixR mixB
  rw [List.length_map, if_pos hv, List.map_map]
  have h0 := (valid_len hv).1
  refine List.map_congr_left fun i hi => ?_
  have hp : piN bs.length i < bs.length := Nat.mod_lt _ (by omega)
  simp only [Function.comp]
  rw [gi_ib _ _ hp, List.getD_eq_getElem?_getD, List.getElem?_eq_getElem hp]
  rfl
theorem idx58 (a0 a1 a2 a3 a4 a5 a6 b0 b1 b2 b3 b4 b5 b6 : Value) (W : World) : (Instr.index 92 (.agg #[a0, a1, a2, a3, a4, a5, a6, b0, b1, b2, b3, b4, b5, b6]) (.int .i64 0)).run Tryz.prog W = .ok (.agg #[a0, a1, a2, a3, a4, a5, a6]) W := by kernel_rfl
theorem idx58' (a0 a1 a2 a3 a4 a5 a6 b0 b1 b2 b3 b4 b5 b6 : Value) (W : World) : (Instr.index 92 (.agg #[a0, a1, a2, a3, a4, a5, a6, b0, b1, b2, b3, b4, b5, b6]) (.int .i64 1)).run Tryz.prog W = .ok (.agg #[b0, b1, b2, b3, b4, b5, b6]) W := by kernel_rfl
/-- segment j of the word, and the words up to a segment -/
def segF (bi p1 p2 : List Int) (j : Nat) : List Int := if j = 0 then bi else if j = 1 then p1 else p2
def segW (bi p1 p2 : List Int) (s m : St3) : Nat → List Int
  | 0 => []
  | j + 1 => segW bi p1 p2 s m j ++ segF bi p1 p2 j ++ endL (tlI s) j ++ endL (tlI m) j
def segI (bi p1 p2 : List Int) (s m : St3) (j k : Nat) : List Int :=
  segW bi p1 p2 s m j ++ segF bi p1 p2 j ++ (if 0 < k then endL (tlI s) j else []) ++ (if 1 < k then endL (tlI m) j else [])
theorem endL_len (x : Nat → Int) (j : Nat) : (endL x j).length = 2 := by unfold endL; split; rfl; split <;> rfl
def wordI (bs : List Bool) : List Int := (wordB bs (mixB bs)).map ib
theorem segW_word (bs ms : List Bool) : segW (bs.map ib) ((parL s0 bs).map ib) ((parL s0 ms).map ib) (fin bs) (fin ms) 3 = (wordB bs ms).map ib := by
  simp only [segW, segF, wordB, List.map_append, List.nil_append, List.map_cons, List.map_nil, List.append_assoc]
  rfl
set_option maxRecDepth 100000 in
set_option maxHeartbeats 600000 in
theorem enc_badlen (A : Option Addr) (n c : Nat) (w : World) (hv : validK (n : Int) = false) (hn : (n : Int) ≤ 9223372036854775807) :
    Calls Tryz.prog 22 #[.slice A n c] w fun e w' => e = .returned (.tuple #[.slice none 0 0, .int .i64 2]) ∧ Below w.heap.size w w' := by
  go_enter Tryz.func22, Tryz.ntmps22
  go_wp2_with fail
  refine wp_scope_fwd 0 rfl ?_
  go_wp2_with fail
  refine (valid_any _ _).mono ?_
  rintro e w1 ⟨rfl, hB1⟩
  rw [hv]
  go_wp2
  go_step3
  refine ⟨rfl, ?_⟩
  go_wp2
  simp only [Exit.jump]
  go_ret2
  exact ⟨rfl, ((Below.refl _ w).alloc (Nat.le_refl _) _).trans (hB1.mono (by simp))⟩
set_option maxRecDepth 100000 in
set_option maxHeartbeats 600000 in
theorem enc_badbit (A : Option Addr) (n c : Nat) (xs : List Int) (w : World) (h : Rd .u8 w A n c xs) (hv : validK (n : Int) = true) (hb : ValidB xs = false) :
    Calls Tryz.prog 22 #[.slice A n c] w fun e w' => e = .returned (.tuple #[.slice none 0 0, .int .i64 3]) ∧ Below w.heap.size w w' := by
  have hbd := h.bd.1
  have H1 := Lib.hid (Rdv.alloc h (.cells (enc0 ++ enc0).toArray 92))
  have hO : Ownv 92 (w.alloc (.cells (enc0 ++ enc0).toArray 92)) w.heap.size (some ⟨w.heap.size, 0, none⟩) 14 14 (enc0 ++ enc0) := Ownv.lit w (enc0 ++ enc0).toArray 92 rfl (Nat.le_refl _) (by show 14 ≤ maxLen; unfold maxLen; omega)
  have HO := Lib.hid hO
  clear h hO
  go_enter Tryz.func22, Tryz.ntmps22
  go_wp2_with fail
  refine wp_scope_fwd 0 rfl ?_
  go_wp2_with fail
  refine (valid_any _ _).mono ?_
  rintro e w1 ⟨rfl, hB1⟩
  rw [hv]
  go_wp2_with fail
  refine (encoded_bad A n c xs _ (Rdv.below H1.out hB1) hb).mono ?_
  rintro e w2 ⟨rfl, hB2⟩
  have hO2 := (HO.out.below hB1).below hB2
  have d0 := hO2.rd.at_ 0 _ rfl
  have f0 := Ownv.frozen hO2 (by omega) 0
  have d1 := hO2.rd.at_ 1 _ rfl
  have f1 := Ownv.frozen hO2 (by omega) 1
  have d2 := hO2.rd.at_ 2 _ rfl
  have f2 := Ownv.frozen hO2 (by omega) 2
  have d3 := hO2.rd.at_ 3 _ rfl
  have f3 := Ownv.frozen hO2 (by omega) 3
  have d4 := hO2.rd.at_ 4 _ rfl
  have f4 := Ownv.frozen hO2 (by omega) 4
  have d5 := hO2.rd.at_ 5 _ rfl
  have f5 := Ownv.frozen hO2 (by omega) 5
  have d6 := hO2.rd.at_ 6 _ rfl
  have f6 := Ownv.frozen hO2 (by omega) 6
  simp only [adr_some, Nat.zero_add] at d0 f0 d1 f1 d2 f2 d3 f3 d4 f4 d5 f5 d6 f6
  have HO2 := Lib.hid hO2
  have HB1 := Lib.hid hB1
  have HB2 := Lib.hid hB2
  clear hO2 hB1 hB2
  unfold enc0
  go_wp2
  go_step3
  refine ⟨rfl, ?_⟩
  go_wp2
  simp only [Exit.jump]
  go_ret2
  have hp := (Ownv.putC_ enc0 0 HO2.out (by show 0 + 7 ≤ 14; omega)).2
  have b0 := (((Below.refl _ w).alloc (Nat.le_refl _) (.cells (enc0 ++ enc0).toArray 92)).trans (HB1.out.mono (by simp))).trans (HB2.out.mono (by have := HB1.out.size; simp at this; omega))
  exact ⟨rfl, b0.grown hp b0.size (fun k hk => by have := Option.some.inj hk; omega)⟩
def segN (n j k : Nat) : Nat := j * (n + 4) + n + 2 * k
structure EncCtx (w wL : World) (n : Nat) (O : Option Addr) (PA : Nat → Option Addr) (PC : Nat → Nat) (F : Nat → List Int) (CV : List Value) : Prop where
  parts : Rdv wL O 3 3 [.slice (PA 0) n (PC 0), .slice (PA 1) n (PC 1), .slice (PA 2) n (PC 2)]
  rd : ∀ j, j < 3 → Rd .u8 wL (PA j) n (PC j) (F j)
  codes : Ownv 92 wL w.heap.size (some ⟨w.heap.size, 0, none⟩) 14 14 CV
  bel : Below w.heap.size w wL
def OutInv (w wL : World) (n : Nat) (W : Nat → List Int) (i o : Value) (wr : World) : Prop :=
  ∃ (j : Nat) (A : Option Addr) (c : Nat), j ≤ 3 ∧ i = .int .i64 j ∧ o = .slice A (j * (n + 4)) c ∧ Own .u8 5 wr wL.heap.size A (j * (n + 4)) c (W j) ∧ Below wL.heap.size wL wr
def innL (P E1 E2 : List Int) (k : Nat) : List Int := P ++ (if 0 < k then E1 else []) ++ (if 1 < k then E2 else [])
def InnInv (wL : World) (L : Nat) (I : Nat → List Int) (i o : Value) (wr : World) : Prop :=
  ∃ (k : Nat) (A : Option Addr) (c : Nat), k ≤ 2 ∧ i = .int .i64 k ∧ o = .slice A (L + 2 * k) c ∧ Own .u8 5 wr wL.heap.size A (L + 2 * k) c (I k) ∧ Below wL.heap.size wL wr
set_option maxRecDepth 100000 in
set_option maxHeartbeats 1000000 in
theorem enc_any (A : Option Addr) (n c : Nat) (bs : List Bool) (w : World) (h : Rd .u8 w A n c (bs.map ib)) (hv : validK (n : Int) = true) :
    Calls Tryz.prog 22 #[.slice A n c] w fun e w' => ∃ A' c', e = .returned (.tuple #[.slice A' (3 * (n + 4)) c', .int .i64 0]) ∧ Own .u8 5 w' w.heap.size A' (3 * (n + 4)) c' (wordI bs) ∧ Below w.heap.size w w' := by
  have hbd := h.bd.1
  obtain ⟨n0, n1⟩ := valid_len hv
  have hlen : bs.length = n := by have := h.len; simpa using this
  have hvl : validK (bs.length : Int) = true := by rw [hlen]; exact hv
  have HMIX := Lib.hid (mixR_ib bs hvl)
  have HML := Lib.hid (mixB_len bs)
  have HLEN := Lib.hid hlen
  have H1 := Lib.hid (Rdv.alloc h (.cells (enc0 ++ enc0).toArray 92))
  have hO : Ownv 92 (w.alloc (.cells (enc0 ++ enc0).toArray 92)) w.heap.size (some ⟨w.heap.size, 0, none⟩) 14 14 (enc0 ++ enc0) := Ownv.lit w (enc0 ++ enc0).toArray 92 rfl (Nat.le_refl _) (by show 14 ≤ maxLen; unfold maxLen; omega)
  have HO := Lib.hid hO
  have hpe : permE (n : Int) = 0 := by unfold permE; rw [if_pos hv]
  have HPE := Lib.hid hpe
  have HBA : Hid (A ≠ none → blk A < w.heap.size) := Lib.hid (fun hA => by
    obtain ⟨b, o, rfl, hb⟩ := Rdv.ptr h (by have := h.le; omega)
    exact hb)
  clear h hO hpe hlen hvl
  go_enter Tryz.func22, Tryz.ntmps22
  go_wp2_with fail
  go_step3
  go_wp2_with fail
  refine (valid_any _ _).mono ?_
  rintro e w1 ⟨rfl, hB1⟩
  rw [hv]
  have hR1 := Rdv.below H1.out hB1
  have HR1 := Lib.hid hR1
  go_wp2_with fail
  refine (encoded_any A n c bs _ hR1 (by omega)).mono ?_
  rintro e w2 ⟨A1, c1, rfl, hP1, hB2⟩
  have hO2 := (HO.out.below hB1).below hB2
  have d0 := hO2.rd.at_ 0 _ rfl
  have f0 := Ownv.frozen hO2 (by omega) 0
  have d1 := hO2.rd.at_ 1 _ rfl
  have f1 := Ownv.frozen hO2 (by omega) 1
  have d2 := hO2.rd.at_ 2 _ rfl
  have f2 := Ownv.frozen hO2 (by omega) 2
  have d3 := hO2.rd.at_ 3 _ rfl
  have f3 := Ownv.frozen hO2 (by omega) 3
  have d4 := hO2.rd.at_ 4 _ rfl
  have f4 := Ownv.frozen hO2 (by omega) 4
  have d5 := hO2.rd.at_ 5 _ rfl
  have f5 := Ownv.frozen hO2 (by omega) 5
  have d6 := hO2.rd.at_ 6 _ rfl
  have f6 := Ownv.frozen hO2 (by omega) 6
  simp only [adr_some, Nat.zero_add] at d0 f0 d1 f1 d2 f2 d3 f3 d4 f4 d5 f5 d6 f6
  have HO2 := Lib.hid hO2
  have hsz1 : w.heap.size + 1 ≤ w1.heap.size := by have := hB1.size; simpa using this
  have HB1 := Lib.hid hB1
  have HB2 := Lib.hid hB2
  have HP1 := Lib.hid hP1
  clear hO2 hB1 hB2 hR1 hP1
  unfold encV encL
  generalize hs : fin bs = s at *
  go_wp2_with fail
  have hp2 := Ownv.putC_ (encL s A1 n c1) 0 HO2.out (by show 0 + 7 ≤ 14; omega)
  have hsz2 : w1.heap.size ≤ w2.heap.size := HB2.out.size
  have b0 := ((((Below.refl _ w).alloc (Nat.le_refl _) (.cells (enc0 ++ enc0).toArray 92)).trans (HB1.out.mono (by simp))).trans (HB2.out.mono (by omega))).grown hp2.2 (by omega) (fun k hk => by have := Option.some.inj hk; omega)
  have hR2 : Rd .u8 _ A n c (bs.map ib) := Rdv.grown (Rdv.below HR1.out HB2.out) hp2.2 (fun hA he => by have h8 := HBA.out hA; have := Option.some.inj he; omega)
  have hQ1 : Own .u8 5 _ w.heap.size A1 n c1 ((parL s0 bs).map ib) := Ownv.grown (Ownv.mono HP1.out (by omega)) hp2.2 (fun hA he => by have h8 := (Ownv.blk_of HP1.out hA).1; have := Option.some.inj he; omega)
  have hO3 := hp2.1
  change Calls Tryz.prog 53 _ (putC w2 w.heap.size 0 (encL s A1 n c1)) _
  clear d0 f0 d1 f1 d2 f2 d3 f3 d4 f4 d5 f5 d6 f6 hp2
  generalize putC w2 w.heap.size 0 (encL s A1 n c1) = w3 at *
  have HBA1 : Hid (A1 ≠ none → w.heap.size < blk A1) := Lib.hid (fun hA => by have h8 := (Ownv.blk_of HP1.out hA).1; omega)
  have HR3 := Lib.hid hR2
  have HQ1 := Lib.hid hQ1
  have HO3 := Lib.hid hO3
  have HB3 := Lib.hid b0
  clear hR2 hQ1 hO3 b0 HO2 HB1 HB2 HP1 HR1
  have hm := mix_any A n c (bs.map ib) w3 HR3.out
  rw [HPE.out, HMIX.out] at hm
  refine hm.mono ?_
  rintro e w4 ⟨A2, l2, rfl, hM, hB4⟩
  obtain rfl : n = l2 := by
    have h9 := (Own.rd hM).len
    rw [List.length_map, HML.out, HLEN.out] at h9
    exact h9
  have HB4 := Lib.hid hB4
  have HM := Lib.hid hM
  clear hm hM hB4
  go_wp2_with fail
  refine (encoded_any A2 n n (mixB bs) _ (Own.rd HM.out) (by omega)).mono ?_
  rintro e w5 ⟨A3, c3, rfl, hP3, hB5⟩
  have hO4 := (HO3.out.below HB4.out).below hB5
  have d6 := hO4.rd.at_ 6 _ rfl
  have d7 := hO4.rd.at_ 7 _ rfl
  have f7 := Ownv.frozen hO4 (by omega) 7
  have d8 := hO4.rd.at_ 8 _ rfl
  have f8 := Ownv.frozen hO4 (by omega) 8
  have d9 := hO4.rd.at_ 9 _ rfl
  have f9 := Ownv.frozen hO4 (by omega) 9
  have d10 := hO4.rd.at_ 10 _ rfl
  have f10 := Ownv.frozen hO4 (by omega) 10
  have d11 := hO4.rd.at_ 11 _ rfl
  have f11 := Ownv.frozen hO4 (by omega) 11
  have d12 := hO4.rd.at_ 12 _ rfl
  have f12 := Ownv.frozen hO4 (by omega) 12
  have d13 := hO4.rd.at_ 13 _ rfl
  have f13 := Ownv.frozen hO4 (by omega) 13
  simp only [adr_some, Nat.zero_add] at d6 d7 f7 d8 f8 d9 f9 d10 f10 d11 f11 d12 f12 d13 f13
  have HO4 := Lib.hid hO4
  have HB5 := Lib.hid hB5
  have HP3 := Lib.hid hP3
  clear hO4 hB5 hP3
  unfold encV encL
  generalize hms : fin (mixB bs) = m at *
  go_wp2_with fail
  have hp5 := Ownv.putC_ (encL m A3 n c3) 7 HO4.out (by show 7 + 7 ≤ 14; omega)
  have hsz3 : w.heap.size ≤ w3.heap.size := HB3.out.size
  have hsz4 : w3.heap.size ≤ w4.heap.size := HB4.out.size
  have hsz5 : w4.heap.size ≤ w5.heap.size := HB5.out.size
  have hsz6 : (putC w5 w.heap.size 7 (encL m A3 n c3)).heap.size = w5.heap.size := by simp [putC, encL]
  have hwb : w.heap.size < w3.heap.size := (Ownv.blk_ge HO3.out (by omega)).2
  have hctx : EncCtx w ((putC w5 w.heap.size 7 (encL m A3 n c3)).alloc (.cells #[.slice A n c, .slice A1 n c1, .slice A3 n c3] 25)) n (some ⟨w5.heap.size, 0, none⟩) (fun j => if j = 0 then A else if j = 1 then A1 else A3) (fun j => if j = 0 then c else if j = 1 then c1 else c3) (segF (bs.map ib) ((parL s0 bs).map ib) ((parL s0 (mixB bs)).map ib)) (encL s A1 n c1 ++ encL m A3 n c3) := by
    refine ⟨?_, fun j hj => ?_, Ownv.alloc hp5.1 _, ?_⟩
    · exact (Ownv.lit (base := 0) (putC w5 w.heap.size 7 (encL m A3 n c3)) #[.slice A n c, .slice A1 n c1, .slice A3 n c3] 25 (by rw [hsz6]) (Nat.zero_le _) (by show 3 ≤ maxLen; unfold maxLen; omega)).rd
    · refine Rdv.alloc ?_ _
      rcases (by omega : j = 0 ∨ j = 1 ∨ j = 2) with rfl | rfl | rfl
      · exact Rdv.grown (Rdv.below (Rdv.below HR3.out HB4.out) HB5.out) hp5.2 (fun hA he => by have h8 := HBA.out hA; have h9 : blk A = w.heap.size := Option.some.inj he; omega)
      · exact Ownv.rd (Ownv.grown (Ownv.below (Ownv.below HQ1.out HB4.out) HB5.out) hp5.2 (fun hA he => by have h8 := HBA1.out hA; have h9 : blk A1 = w.heap.size := Option.some.inj he; omega))
      · exact Ownv.rd (Ownv.grown HP3.out hp5.2 (fun hA he => by have h8 := (Ownv.blk_of HP3.out hA).1; have h9 : blk A3 = w.heap.size := Option.some.inj he; omega))
    · have q1 := (HB3.out.trans (HB4.out.mono hsz3)).trans (HB5.out.mono (Nat.le_trans hsz3 hsz4))
      have q2 := q1.grown hp5.2 q1.size (fun k hk => by have := Option.some.inj hk; omega)
      exact q2.alloc q2.size _
  obtain ⟨wL, hwL⟩ : ∃ W, W = (putC w5 w.heap.size 7 (encL m A3 n c3)).alloc (.cells #[.slice A n c, .slice A1 n c1, .slice A3 n c3] 25) := ⟨_, rfl⟩
  rw [← hwL] at hctx
  have HCTX := Lib.hid hctx
  have HWL := Lib.hid hwL
  generalize hPA : (fun j : Nat => if j = 0 then A else if j = 1 then A1 else A3) = PA at *
  generalize hPC : (fun j : Nat => if j = 0 then c else if j = 1 then c1 else c3) = PC at *
  have HPA := Lib.hid hPA
  have HPC := Lib.hid hPC
  clear hctx hwL hp5 hPA hPC hsz1 hsz2 hsz3 hsz4 hsz6 d6 d7 f7 d8 f8 d9 f9 d10 f10 d11 f11 d12 f12 d13 f13
  have hpa : PA 0 = A ∧ PA 1 = A1 ∧ PA 2 = A3 := by rw [← HPA.out]; exact ⟨rfl, rfl, rfl⟩
  have hpc : PC 0 = c ∧ PC 1 = c1 ∧ PC 2 = c3 := by rw [← HPC.out]; exact ⟨rfl, rfl, rfl⟩
  have HPA2 := Lib.hid hpa
  have HPC2 := Lib.hid hpc
  clear hpa hpc
  generalize hW : segW (bs.map ib) ((parL s0 bs).map ib) ((parL s0 (mixB bs)).map ib) s m = Wd at *
  generalize hF : segF (bs.map ib) ((parL s0 bs).map ib) ((parL s0 (mixB bs)).map ib) = F at *
  have hW0 : Wd 0 = [] := by rw [← hW]; rfl
  have hWs : ∀ j, Wd (j + 1) = Wd j ++ F j ++ endL (tlI s) j ++ endL (tlI m) j := fun j => by rw [← hW, ← hF]; rfl
  have HW := Lib.hid hW
  have HW0 := Lib.hid hW0
  have HWS := Lib.hid hWs
  have hss : w.heap.size < wL.heap.size := (Ownv.blk_ge HCTX.out.codes (by omega)).2
  clear hW hW0 hWs hF
  go_loopw [44, 2] (fun i o wr => OutInv w wL n Wd i o wr) (fun i _ _ => 3 - (intOf i).toNat)
  case atStart =>
    change OutInv w wL n Wd _ _ ((putC w5 w.heap.size 7 (encL m A3 n c3)).alloc (.cells #[.slice A n c, .slice A1 n c1, .slice A3 n c3] 25))
    rw [← HWL.out]
    exact ⟨0, none, 0, by omega, rfl, by simp, by rw [HW0.out]; simpa using Own.nilv _ _ _ _, Below.refl _ _⟩
  case round =>
    obtain ⟨j, Aw, cw, hj, rfl, rfl, hOw, hB⟩ := hrel
    by_cases hlt : j < 3
    · have hparts := HCTX.out.parts.below hB
      have hix := fun W => Rdv.ix hparts el62 hlt .i64 W
      have hpj : [Value.slice (PA 0) n (PC 0), .slice (PA 1) n (PC 1), .slice (PA 2) n (PC 2)][j]? = some (.slice (PA j) n (PC j)) := by
        rcases (by omega : j = 0 ∨ j = 1 ∨ j = 2) with rfl | rfl | rfl <;> rfl
      have hcell := hparts.at_ j _ hpj
      rw [adr_some, Nat.zero_add] at hcell
      have hrd := Rdv.below (HCTX.out.rd j hlt) hB
      have hnj : j * (n + 4) ≤ 18444 := by
        have : j * (n + 4) ≤ 3 * 6148 := Nat.mul_le_mul (by omega) (by omega)
        omega
      generalize hnn : j * (n + 4) = nj at *
      have hst := fun W hp hx hy => Lib.hid (stream2_any (some ⟨wr.heap.size, 0, none⟩) Aw (PA j) nj cw n (PC j) (Wd j) (F j) W hp hx hy (by omega) (by omega))
      have HNN := Lib.hid hnn
      have E5 : Hid ((j + 1) * (n + 4) = nj + n + 2 * 2) := Lib.hid (by rw [Nat.succ_mul, hnn]; omega)
      have HPJ := Lib.hid hpj
      have HRD := Lib.hid hrd
      have HOW := Lib.hid hOw
      have HB := Lib.hid hB
      have HPT := Lib.hid hparts
      clear hpj hrd hOw hB hnn hparts
      have hp0 : Rdv (wr.alloc (.cells #[.slice Aw nj cw, .slice (PA j) n (PC j)] 25)) (some ⟨wr.heap.size, 0, none⟩) 2 2 [.slice Aw nj cw, .slice (PA j) n (PC j)] :=
        (Ownv.lit (base := 0) wr #[.slice Aw nj cw, .slice (PA j) n (PC j)] 25 rfl (Nat.zero_le _) (by show 2 ≤ maxLen; unfold maxLen; omega)).rd
      have HP0 := Lib.hid hp0
      clear hp0
      have HAL := Lib.hid ((Below.refl wL.heap.size wr).alloc HB.out.size (.cells #[.slice Aw nj cw, .slice (PA j) n (PC j)] 25))
      go_wp2_with (go_at_call 54; refine (hst _ HP0.out (Ownv.rd (Ownv.alloc HOW.out _)) (Rdv.alloc HRD.out _)).out.mono ?_; rintro e w6 ⟨A6, c6, rfl, hO6, hB6⟩; have hB6' := HAL.out.trans (hB6.mono (by have := HB.out.size; simp; omega)); have hC := HCTX.out.codes.below (HB.out.trans hB6'); have d0 := hC.rd.at_ 0 _ rfl; have d1 := hC.rd.at_ 1 _ rfl; have d2 := hC.rd.at_ 2 _ rfl; have d3 := hC.rd.at_ 3 _ rfl; have d4 := hC.rd.at_ 4 _ rfl; have d5 := hC.rd.at_ 5 _ rfl; have d6 := hC.rd.at_ 6 _ rfl; have d7 := hC.rd.at_ 7 _ rfl; have d8 := hC.rd.at_ 8 _ rfl; have d9 := hC.rd.at_ 9 _ rfl; have d10 := hC.rd.at_ 10 _ rfl; have d11 := hC.rd.at_ 11 _ rfl; have d12 := hC.rd.at_ 12 _ rfl; have d13 := hC.rd.at_ 13 _ rfl; simp only [adr_some, Nat.zero_add] at d0 d1 d2 d3 d4 d5 d6 d7 d8 d9 d10 d11 d12 d13; have HO6 := Lib.hid hO6; have HB6 := Lib.hid (HB.out.trans hB6'); have hsz7 : wL.heap.size ≤ w6.heap.size := (HB.out.trans hB6').size; clear hO6 hB6 hB6' hC)
      have ix0 := fun W => idx58 (.int .u8 (tlI s 0)) (.int .u8 (tlI s 1)) (.int .u8 (tlI s 2)) (.int .u8 (tlI s 3)) (.int .u8 (tlI s 4)) (.int .u8 (tlI s 5)) (.slice A1 n c1) (.int .u8 (tlI m 0)) (.int .u8 (tlI m 1)) (.int .u8 (tlI m 2)) (.int .u8 (tlI m 3)) (.int .u8 (tlI m 4)) (.int .u8 (tlI m 5)) (.slice A3 n c3) W
      have ix1 := fun W => idx58' (.int .u8 (tlI s 0)) (.int .u8 (tlI s 1)) (.int .u8 (tlI s 2)) (.int .u8 (tlI s 3)) (.int .u8 (tlI s 4)) (.int .u8 (tlI s 5)) (.slice A1 n c1) (.int .u8 (tlI m 0)) (.int .u8 (tlI m 1)) (.int .u8 (tlI m 2)) (.int .u8 (tlI m 3)) (.int .u8 (tlI m 4)) (.int .u8 (tlI m 5)) (.slice A3 n c3) W
      go_loopw [54, 2] (fun i o wq => InnInv wL (nj + n) (innL (Wd j ++ F j) (endL (tlI s) j) (endL (tlI m) j)) i o wq) (fun i _ _ => 2 - (intOf i).toNat)
      case atStart => exact ⟨0, A6, c6, by omega, rfl, rfl, Own.of_eq (Ownv.mono HO6.out (by have := HB.out.size; simp; omega)) rfl (by simp [innL]), HB6.out⟩
      case round =>
        obtain ⟨k, Ac, cc, hk, rfl, rfl, hOc, hBc⟩ := hrel
        have HOc := Lib.hid hOc
        have HBc := Lib.hid hBc
        clear hOc hBc d0 d1 d2 d3 d4 d5 d6 d7 d8 d9 d10 d11 d12 d13
        rcases (by omega : k = 0 ∨ k = 1 ∨ k = 2) with rfl | rfl | rfl
        all_goals try simp only [Int.ofNat_zero, Int.ofNat_one, Int.cast_ofNat_Int]
        · have he := fun W => Lib.hid (ending_any31 (tlI s) j hlt W)
          unfold tailV at he
          go_wp2_with (first
            | (go_at_call 55; refine (he _).out.mono ?_; rintro e w8 ⟨A8, rfl, hO8, hB8⟩)
            | (at_builtin; refine list_of rfl fun K hK => wp_app _ _ 25 rfl el22 rfl rfl (Ownv.below (Ownv.alloc HOc.out _) hB8) (Ownv.rd hO8) (oneCell_ints .u8 _) (by omega) (by unfold maxLen; omega) (Nat.le_trans (HBc.out.alloc HBc.out.size _).size hB8.size) ?_; intro A9 c9 w9 hO9 hg9; refine hK _ _ ?_; clear hK K))
          have hB9 := (HBc.out.alloc HBc.out.size (.cells #[.int .u8 (tlI s 0), .int .u8 (tlI s 1), .int .u8 (tlI s 2), .int .u8 (tlI s 3), .int .u8 (tlI s 4), .int .u8 (tlI s 5), .slice A1 n c1] 91)).trans (hB8.mono (HBc.out.alloc HBc.out.size (.cells #[.int .u8 (tlI s 0), .int .u8 (tlI s 1), .int .u8 (tlI s 2), .int .u8 (tlI s 3), .int .u8 (tlI s 4), .int .u8 (tlI s 5), .slice A1 n c1] 91)).size)
          go_roundw
          case rel => exact ⟨1, A9, c9, by omega, rfl, rfl, Own.of_eq hO9 rfl (by simp [innL]), hB9.grown hg9 hB9.size (fun k hk => Ownv.ob' HOc.out hk)⟩
          case measure => simp [intOf]
        · have he := fun W => Lib.hid (ending_any31 (tlI m) j hlt W)
          unfold tailV at he
          go_wp2_with (first
            | (go_at_call 55; refine (he _).out.mono ?_; rintro e w8 ⟨A8, rfl, hO8, hB8⟩)
            | (at_builtin; refine list_of rfl fun K hK => wp_app _ _ 25 rfl el22 rfl rfl (Ownv.below (Ownv.alloc HOc.out _) hB8) (Ownv.rd hO8) (oneCell_ints .u8 _) (by omega) (by unfold maxLen; omega) (Nat.le_trans (HBc.out.alloc HBc.out.size _).size hB8.size) ?_; intro A9 c9 w9 hO9 hg9; refine hK _ _ ?_; clear hK K))
          have hB9 := (HBc.out.alloc HBc.out.size (.cells #[.int .u8 (tlI m 0), .int .u8 (tlI m 1), .int .u8 (tlI m 2), .int .u8 (tlI m 3), .int .u8 (tlI m 4), .int .u8 (tlI m 5), .slice A3 n c3] 91)).trans (hB8.mono (HBc.out.alloc HBc.out.size (.cells #[.int .u8 (tlI m 0), .int .u8 (tlI m 1), .int .u8 (tlI m 2), .int .u8 (tlI m 3), .int .u8 (tlI m 4), .int .u8 (tlI m 5), .slice A3 n c3] 91)).size)
          go_roundw
          case rel => exact ⟨2, A9, c9, by omega, rfl, rfl, Own.of_eq hO9 rfl (by simp [innL]), hB9.grown hg9 hB9.size (fun k hk => Ownv.ob' HOc.out hk)⟩
          case measure => simp [intOf]
        · go_wp2
          go_roundw
          case rel => exact ⟨j + 1, Ac, cc, by omega, by go_num, by rw [E5.out], by rw [HWS.out j]; exact Own.of_eq HOc.out E5.out.symm (by simp [innL]), HBc.out⟩
          case measure => simp [intOf]; omega
    · obtain rfl : j = 3 := by omega
      have HOF := Lib.hid hOw
      have HB := Lib.hid hB
      clear hOw hB
      go_wp2
      rw [Exit.noGoto_ret]
      go_ret2
      refine ⟨Aw, cw, rfl, ?_, HCTX.out.bel.trans (HB.out.mono HCTX.out.bel.size)⟩
      rw [show wordI bs = Wd 3 from by rw [← HW.out, ← hs, ← hms]; exact (segW_word bs (mixB bs)).symm]
      exact Ownv.mono HOF.out HCTX.out.bel.size
end Go.Proofs.YtcbbkflnenkpgaaGreat.Tu

namespace Go.Proofs.YtcbbkflnenkpgaaGreat.Tu
open Go.RowKit
set_option linter.unusedVariables false
def kLen (n : Nat) : Int := (n : Int) / 3 - 4
def goodLen (n : Nat) : Prop := n % 3 = 0 ∧ validK (kLen n) = true
theorem goodLen_bd {n : Nat} (h : goodLen n) : ∃ k : Nat, kLen n = k ∧ n = 3 * (k + 4) ∧ validK (k : Int) = true ∧ 40 ≤ k ∧ k ≤ 6144 := by
  obtain ⟨h1, h2⟩ := h
  have h3 := valid_bd h2
  refine ⟨(kLen n).toNat, by omega, ?_, by rw [Int.toNat_of_nonneg (by omega)]; exact h2, by omega, by omega⟩
  unfold kLen at *
  omega
/-- bytes that are bits -/
def toB (xs : List Int) : List Bool := xs.map fun x => decide (x = 1)
theorem toB_ib (xs : List Int) (h0 : ∀ x ∈ xs, 0 ≤ x) (hv : ValidB xs = true) : (toB xs).map ib = xs := by
  unfold toB
  rw [List.map_map]
  have h1 : ∀ x ∈ xs, (ib ∘ fun x => decide (x = 1)) x = x := by
    intro x hx
    have h2 := List.all_eq_true.1 hv x hx
    have h3 := h0 x hx
    simp only [decide_eq_true_eq] at h2
    simp only [Function.comp, ib]
    by_cases e : x = 1
    · simp [e]
    · rw [if_neg (by simpa using e)]; omega
  rw [List.map_congr_left h1, List.map_id']
theorem ib_inj : ∀ {x y : List Bool}, x.map ib = y.map ib → x = y := by
  intro x y h
  refine (List.map_inj_right (f := ib) ?_).1 h
  intro a b; cases a <;> cases b <;> decide
def chkE (n : Nat) (bs : List Bool) : Int := if wordI (bs.take (n / 3 - 4)) = bs.map ib then 0 else 11
end Go.Proofs.YtcbbkflnenkpgaaGreat.Tu

namespace Go.Proofs.YtcbbkflnenkpgaaGreat.Tu
open Go.RowKit
set_option linter.unusedVariables false
def stS (s : St3) : Int := stI s.1 s.2.1 s.2.2
theorem stS_bd (s : St3) : 0 ≤ stS s ∧ stS s < 8 := stI_bd _ _ _
set_option maxRecDepth 100000 in
theorem rstep_any (s : St3) (x : Bool) (w : World) : Calls Tryz.prog 104 #[.int .i64 (stS s), .int .i64 (ib x)] w fun e w' => e = .returned (.tuple #[.int .i64 (stS (stp s x)), .int .i64 (ib (par s x))]) ∧ w = w' := by
  obtain ⟨a, b, c⟩ := s
  cases a <;> cases b <;> cases c <;> cases x <;> (
    simp only [stS, stp, par, stI, ib, if_true, if_false, Bool.false_eq_true]
    go_enter Tryz.func104, Tryz.ntmps104
    go_wp2
    go_ret2
    exact ⟨rfl, rfl⟩)
/-- the states behind each bit -/
def stL (s : St3) : List Bool → List Int
  | [] => []
  | x :: l => stS (stp s x) :: stL (stp s x) l
theorem stL_snoc (l : List Bool) (x : Bool) : ∀ s, stL s (l ++ [x]) = stL s l ++ [stS (stp (l.foldl stp s) x)] := by
  induction l with
  | nil => intro s; rfl
  | cons y l ih => intro s; simp only [List.cons_append, stL, List.foldl_cons, ih]
theorem stL_len (l : List Bool) : ∀ s, (stL s l).length = l.length := by
  induction l with
  | nil => intro s; rfl
  | cons y l ih => intro s; simp [stL, ih]
theorem stL_last (l : List Bool) (h : l ≠ []) (s : St3) : gi (stL s l) (l.length - 1) = stS (l.foldl stp s) := by
  obtain ⟨l', x, rfl⟩ : ∃ l' x, l = l' ++ [x] := ⟨l.dropLast, l.getLast h, (List.dropLast_concat_getLast h).symm⟩
  rw [stL_snoc, List.foldl_append]
  have e : (l' ++ [x]).length - 1 = (stL s l').length := by rw [stL_len]; simp
  rw [e, gi_eq _ _ (by simp)]
  simp
theorem own_ob_ne {e e' : TypeId} {w : World} {base base' : Nat} {A B : Option Addr} {n c m d : Nat} {vs us : List Value} (h : Ownv e w base A n c vs) (h' : Ownv e' w base' B m d us) (he : e ≠ e') (hB : B ≠ none) : some (blk B) ≠ (Value.slice A n c).ownBlock := by
  intro hh
  rcases (Ownv.cases h).2 with ⟨rfl, _⟩ | ⟨g, cur, rfl, _⟩
  · simp [Value.ownBlock] at hh
  · refine own_tag_ne h h' he (by simp) hB ?_
    simp [Value.ownBlock] at hh
    exact hh.symm
def WalkSt (w wr : World) (j : Nat) (b : List Bool) (A B : Option Addr) (c d : Nat) : Prop :=
  Own .i64 3 wr w.heap.size A j c (stL s0 b) ∧ Own .u8 5 wr w.heap.size B j d ((parL s0 b).map ib) ∧ Below w.heap.size w wr
def WalkInv (w : World) (xs : List Int) (i s a p : Value) (wr : World) : Prop :=
  ∃ (j : Nat) (A B : Option Addr) (c d : Nat), j ≤ xs.length ∧ i = .int .i64 j ∧ s = .int .i64 (stS (fin (toB (xs.take j)))) ∧ a = .slice A j c ∧ p = .slice B j d ∧ (∀ q, q < j → gi xs q ≤ 1) ∧ WalkSt w wr j (toB (xs.take j)) A B c d
def WalkPost (w : World) (xs : List Int) (e : Ending) (w' : World) : Prop :=
  ∃ (j : Nat) (A B : Option Addr) (c d : Nat), e = .returned (.tuple #[.slice A j c, .slice B j d, .bool (ValidB xs)]) ∧ Below w.heap.size w w' ∧ (ValidB xs = true → j = xs.length ∧ WalkSt w w' j (toB xs) A B c d)
theorem toB_snoc (xs : List Int) (j : Nat) (h : j < xs.length) : toB (xs.take (j + 1)) = toB (xs.take j) ++ [decide (gi xs j = 1)] := by
  rw [List.take_add_one, List.getElem?_eq_getElem h, toB, List.map_append, gi_eq _ _ h]; rfl
set_option maxRecDepth 100000 in
set_option maxHeartbeats 600000 in
theorem rwalk_any (A : Option Addr) (n c : Nat) (xs : List Int) (w : World) (h : Rd .u8 w A n c xs) (h0 : ∀ x ∈ xs, 0 ≤ x) (hn : n ≤ 100000) :
    Calls Tryz.prog 103 #[.slice A n c] w (WalkPost w xs) := by
  have hl := h.len
  have HH := Lib.hid h
  have H0 : Hid (∀ q, q < xs.length → 0 ≤ gi xs q) := Lib.hid (fun q hq => h0 _ (gi_mem xs q hq))
  have HL := Lib.hid hl
  clear h h0 hl
  go_enter Tryz.func103, Tryz.ntmps103
  go_wp2
  go_loopw [8, 7, 5, 6] (fun i s a p wr => WalkInv w xs i s a p wr) (fun i _ _ _ _ => n - (intOf i).toNat)
  case atStart => exact ⟨0, none, none, 0, 0, by omega, rfl, rfl, rfl, rfl, by intro q hq; omega, Own.nilv _ _ _ _, Own.nilv _ _ _ _, Below.refl _ _⟩
  case round =>
    obtain ⟨j, A1, B1, c1, d1, hj, rfl, rfl, rfl, rfl, hv, hs, hp, hB⟩ := hrel
    rw [HL.out] at hj
    by_cases hlt : j < n
    · have hx := Rdv.below HH.out hB
      have hix := fun W => Rdv.ix hx el22 hlt .i64 W
      have hcell := Rd.cell hx hlt
      have hg0 := H0.out j (by rw [HL.out]; exact hlt)
      have HV := Lib.hid hv
      have HS := Lib.hid hs
      have HP := Lib.hid hp
      have HB := Lib.hid hB
      clear hv hs hp hB hx
      by_cases h1 : gi xs j ≤ 1
      · have h1' : decide (1 < gi xs j) = false := by simp; omega
        have e1 : gi xs j = ib (decide (gi xs j = 1)) := by
          unfold ib
          by_cases e : gi xs j = 1
          · simp [e]
          · rw [if_neg (by simpa using e)]; omega
        have HTS := Lib.hid (toB_snoc xs j (by rw [HL.out]; exact hlt))
        have H1 := Lib.hid h1
        generalize hbx : decide (gi xs j = 1) = x at *
        have HE1 := Lib.hid e1
        have hrs := fun W => Lib.hid (rstep_any (fin (toB (xs.take j))) x W)
        have hpb : 0 ≤ ib (par (fin (toB (xs.take j))) x) ∧ ib (par (fin (toB (xs.take j))) x) ≤ 1 := by cases par (fin (toB (xs.take j))) x <;> decide
        have hwp : IntKind.u8.wrap (ib (par (fin (toB (xs.take j))) x)) = ib (par (fin (toB (xs.take j))) x) := by cases par (fin (toB (xs.take j))) x <;> decide
        have hwx : IntKind.i64.wrap (ib x) = ib x := by cases x <;> decide
        rw [e1] at hcell h1'
        clear e1 hbx h1 hg0
        have hsb := stS_bd (fin (toB (xs.take j)))
        have hsb2 := stS_bd (stp (fin (toB (xs.take j))) x)
        have HFS : Hid (fin (toB (xs.take (j + 1))) = stp (fin (toB (xs.take j))) x) := Lib.hid (by rw [HTS.out]; unfold fin; rw [List.foldl_append]; rfl)
        have HPL : Hid (parL s0 (toB (xs.take (j + 1))) = parL s0 (toB (xs.take j)) ++ [par (fin (toB (xs.take j))) x]) := Lib.hid (by rw [HTS.out, parL_snoc]; rfl)
        have HSL : Hid (stL s0 (toB (xs.take (j + 1))) = stL s0 (toB (xs.take j)) ++ [stS (stp (fin (toB (xs.take j))) x)]) := Lib.hid (by rw [HTS.out, stL_snoc]; rfl)
        generalize fin (toB (xs.take j)) = s at *
        generalize parL s0 (toB (xs.take j)) = ps at *
        generalize stL s0 (toB (xs.take j)) = ss at *
        generalize hps : par s x = pb at *
        generalize stp s x = s' at *
        have hp0 := hpb.1
        have hp1 := hpb.2
        clear hpb hps
        go_wp2_with (first
          | (go_at_call 104; refine (hrs _).out.mono ?_; rintro e w4 ⟨rfl, rfl⟩)
          | (at_builtin; refine list_of rfl fun K hK => wp_app1 _ _ 60 rfl el33 rfl (.int .i64 (stS s')) rfl rfl HS.out (by omega) (by omega) HB.out.size ?_; intro A2 c2 w5 hO5 hg5; refine hK _ _ ?_; clear hK K; have hP5 := Ownv.grown HP.out hg5 (fun hB => own_ob_ne HS.out HP.out (by decide) hB); have hB5 := HB.out.grown hg5 HB.out.size (fun k hk => Ownv.ob' HS.out hk); have HO5 := Lib.hid hO5; have HP5 := Lib.hid hP5; have HB5 := Lib.hid hB5; clear hO5 hg5 hP5 hB5)
          | (at_builtin; refine list_of rfl fun K hK => wp_app1 _ _ 25 rfl el22 rfl (.int .u8 (ib pb)) rfl rfl HP5.out (by omega) (by omega) HB5.out.size ?_; intro B2 d2 w6 hO6 hg6; refine hK _ _ ?_; clear hK K; have hS6 := Ownv.grown HO5.out hg6 (fun hA => own_ob_ne HP5.out HO5.out (by decide) hA); have hB6 := HB5.out.grown hg6 HB5.out.size (fun k hk => Ownv.ob' HP5.out hk); have HO6 := Lib.hid hO6; have HS6 := Lib.hid hS6; have HB6 := Lib.hid hB6; clear hO6 hg6 hS6 hB6))
        go_roundw
        case rel => exact ⟨j + 1, A2, B2, c2, d2, by rw [HL.out]; omega, by go_num, by rw [HFS.out], rfl, rfl, fun q hq => lt_succ_cases HV.out H1.out q hq, by rw [HSL.out]; exact Own.of_eq HS6.out rfl (by simp), by rw [HPL.out]; exact Own.of_eq HO6.out rfl (by simp), HB6.out⟩
        case measure => simp [intOf]; omega
      · have h1' : decide (1 < gi xs j) = true := by simp; omega
        have hf := validB_f (by rw [HL.out]; exact hlt) (by omega : 1 < gi xs j)
        have HF := Lib.hid hf
        clear hf
        go_wp2
        go_ret3
        exact ⟨j, A1, B1, c1, d1, by rw [HF.out]; rfl, HB.out, fun hh => by rw [HF.out] at hh; cases hh⟩
    · obtain rfl : j = n := by omega
      have hf := validB_t (xs := xs) (by rw [HL.out]; intro q hq; exact hv q hq)
      have ht : xs.take j = xs := by rw [← HL.out, List.take_length]
      rw [ht] at hs hp
      have HF := Lib.hid hf
      clear hf ht
      go_wp2
      go_ret3
      exact ⟨j, A1, B1, c1, d1, by rw [HF.out]; rfl, hB, fun _ => ⟨HL.out.symm, hs, hp, hB⟩⟩
theorem toB_map (bs : List Bool) : toB (bs.map ib) = bs := by
  unfold toB
  rw [List.map_map]
  have h1 : ∀ x ∈ bs, ((fun x => decide (x = 1)) ∘ ib) x = x := by intro x _; cases x <;> decide
  rw [List.map_congr_left h1, List.map_id']
theorem ib_nonneg (bs : List Bool) : ∀ x ∈ bs.map ib, 0 ≤ x := by
  intro x hx
  obtain ⟨b, _, rfl⟩ := List.mem_map.1 hx
  cases b <;> decide
set_option maxRecDepth 100000 in
set_option maxHeartbeats 600000 in
theorem rtencode_any (A : Option Addr) (n c : Nat) (bs : List Bool) (w : World) (h : Rd .u8 w A n c (bs.map ib)) (hn : n ≤ 100000) (h1 : 1 ≤ n) :
    Calls Tryz.prog 59 #[.slice A n c] w fun e w' => ∃ B d, e = .returned (.tuple #[.slice B n d, .int .i64 (stS (fin bs)), .int .i64 0]) ∧ Own .u8 5 w' w.heap.size B n d ((parL s0 bs).map ib) ∧ Below w.heap.size w w' := by
  have hl : bs.length = n := by have := h.len; simpa using this
  have hw := fun W h => Lib.hid (rwalk_any A n c (bs.map ib) W h (ib_nonneg bs) hn)
  have hv := valid_ib bs
  have HT := Lib.hid (toB_map bs)
  have HL := Lib.hid hl
  have HV := Lib.hid hv
  clear hl hv
  go_enter Tryz.func59, Tryz.ntmps59
  go_wp2_with fail
  refine (hw _ h).out.mono ?_
  rintro e w1 ⟨j, A1, B1, c1, d1, rfl, hB, hS⟩
  obtain ⟨hj, hs, hp, -⟩ := hS HV.out
  rw [List.length_map, HL.out] at hj
  subst hj
  rw [HT.out] at hs hp
  rw [HV.out]
  have hz : ((j : Int) == 0) = false := beq_f (by omega)
  have hcell := Rd.cell (Own.rd hs) (j := j - 1) (by omega)
  have hlast := stL_last bs (by intro e; subst e; have := HL.out; simp at this; omega) s0
  rw [HL.out] at hlast
  rw [hlast] at hcell
  have hix := fun W => Rdv.ixI (Own.rd hs) el33 (j := j - 1) (by omega) .i64 ((j : Int) - 1) (by omega) W
  have hwr : IntKind.i64.wrap ((j : Int) - 1) = (j : Int) - 1 := IntWalk.i64_in _ (by omega)
  have HS := Lib.hid hs
  have HP := Lib.hid hp
  have HB := Lib.hid hB
  clear hs hp hB h hlast hw
  have hfin : bs.foldl stp s0 = fin bs := rfl
  rw [hfin] at hcell
  clear hfin
  go_wp2
  go_quiet (fail)
  go_wp2
  go_ret3
  exact ⟨B1, d1, rfl, by first | exact HP.out | exact Ownv.drewN HP.out _ | exact Ownv.drew HP.out, by first | exact HB.out | exact HB.out.trans (Qt.below ⟨_, rfl⟩ _)⟩
set_option maxRecDepth 100000 in
theorem rtencode_bad (A : Option Addr) (n c : Nat) (xs : List Int) (w : World) (h : Rd .u8 w A n c xs) (h0 : ∀ x ∈ xs, 0 ≤ x) (hn : n ≤ 100000) (hv : ValidB xs = false) :
    Calls Tryz.prog 59 #[.slice A n c] w fun e w' => e = .returned (.tuple #[.slice none 0 0, .int .i64 0, .int .i64 3]) ∧ Below w.heap.size w w' := by
  have hw := fun W h => Lib.hid (rwalk_any A n c xs W h h0 hn)
  have HV := Lib.hid hv
  clear hv h0
  go_enter Tryz.func59, Tryz.ntmps59
  go_wp2_with fail
  refine (hw _ h).out.mono ?_
  rintro e w1 ⟨j, A1, B1, c1, d1, rfl, hB, hS⟩
  rw [HV.out]
  clear hS h hw
  go_wp2
  go_ret3
  exact ⟨rfl, hB⟩
def RTailInv (s : St3) (w : World) (i v : Value) (wr : World) : Prop :=
  ∃ (j : Nat), j ≤ 3 ∧ i = .int .i64 j ∧ v = .int .i64 (stS (tlS s.1 s.2.1 s.2.2 j)) ∧ Arr3 wr w.heap.size (w.heap.size + 2) (tu s) j ∧ Arr3 wr w.heap.size (w.heap.size + 3) (tz s) j ∧
    Own .u8 87 wr w.heap.size (some ⟨w.heap.size, 0, none⟩) 3 3 [0, 0, 0] ∧ Own .u8 87 wr w.heap.size (some ⟨w.heap.size + 1, 0, none⟩) 3 3 [0, 0, 0] ∧ Below w.heap.size w wr
theorem rtail_next (s : St3) (w wr : World) (j : Nat) (hj : j < 3) (vu vz : List Int)
    (hU : Own .u8 87 wr w.heap.size (some ⟨w.heap.size + 2, 0, none⟩) 3 3 vu) (hqu : ∀ q, q < j → gi vu q = ib (tu s q))
    (hZ : Own .u8 87 wr w.heap.size (some ⟨w.heap.size + 3, 0, none⟩) 3 3 vz) (hqz : ∀ q, q < j → gi vz q = ib (tz s q))
    (hX : Own .u8 87 wr w.heap.size (some ⟨w.heap.size, 0, none⟩) 3 3 [0, 0, 0]) (hY : Own .u8 87 wr w.heap.size (some ⟨w.heap.size + 1, 0, none⟩) 3 3 [0, 0, 0])
    (hB : Below w.heap.size w wr) (iu iz : Int) (hiu : ib (tu s j) = iu) (hiz : ib (tz s j) = iz) :
    RTailInv s w (.int .i64 ((j + 1 : Nat) : Int)) (.int .i64 (stS (tlS s.1 s.2.1 s.2.2 (j + 1)))) ((wr.setCell (adr (some ⟨w.heap.size + 2, 0, none⟩) j) (.int .u8 iu)).setCell (adr (some ⟨w.heap.size + 3, 0, none⟩) j) (.int .u8 iz)) := by
  have nb : ∀ {x y : Nat}, x ≠ y → ∀ {o : Nat}, (some (blk (some ⟨x, 0, none⟩))) ≠ some (blk (some (⟨y, o, none⟩ : Addr))) := fun h _ he => h (Option.some.inj he)
  have u2 := Own.set_ hU hj iu
  have z2 : Own .u8 87 _ w.heap.size (some ⟨w.heap.size + 3, 0, none⟩) 3 3 vz := Ownv.grown hZ u2.2 (fun _ => nb (by omega))
  have z3 := Own.set_ z2 hj iz
  have u3 : Own .u8 87 _ w.heap.size (some ⟨w.heap.size + 2, 0, none⟩) 3 3 (vu.set j iu) := Ownv.grown u2.1 z3.2 (fun _ => nb (by omega))
  have x3 : Own .u8 87 _ w.heap.size (some ⟨w.heap.size, 0, none⟩) 3 3 [0, 0, 0] := Ownv.grown (Ownv.grown hX u2.2 (fun _ => nb (by omega))) z3.2 (fun _ => nb (by omega))
  have y3 : Own .u8 87 _ w.heap.size (some ⟨w.heap.size + 1, 0, none⟩) 3 3 [0, 0, 0] := Ownv.grown (Ownv.grown hY u2.2 (fun _ => nb (by omega))) z3.2 (fun _ => nb (by omega))
  have hlu := (Own.rd hU).len
  have hlz := (Own.rd hZ).len
  have h5 := hB.grown u2.2 hB.size (fun k hk => by have := Option.some.inj hk; simp [blk] at this; omega)
  have h6 := h5.grown z3.2 h5.size (fun k hk => by have := Option.some.inj hk; simp [blk] at this; omega)
  refine ⟨j + 1, by omega, rfl, rfl, ⟨_, u3, fun q hq => ?_⟩, ⟨_, z3.1, fun q hq => ?_⟩, x3, y3, h6⟩
  · rw [gi_set _ _ _ _ (by omega)]
    by_cases e : j = q
    · subst e; rw [if_pos rfl, hiu]
    · rw [if_neg e]; exact hqu q (by omega)
  · rw [gi_set _ _ _ _ (by omega)]
    by_cases e : j = q
    · subst e; rw [if_pos rfl, hiz]
    · rw [if_neg e]; exact hqz q (by omega)
theorem tl_half (s : St3) : (stS s / 2 + stS s) % 2 = ib (s.2.1 ^^ s.2.2) := by
  obtain ⟨a, b, c⟩ := s; cases a <;> cases b <;> cases c <;> decide
def tails (s : St3) : Value := .tuple #[.agg #[.int .u8 (ib (tu s 0)), .int .u8 (ib (tu s 1)), .int .u8 (ib (tu s 2))], .agg #[.int .u8 (ib (tz s 0)), .int .u8 (ib (tz s 1)), .int .u8 (ib (tz s 2))]]
set_option maxRecDepth 100000 in
set_option maxHeartbeats 600000 in
theorem rtail_any (s : St3) (w : World) : Calls Tryz.prog 60 #[.int .i64 (stS s)] w fun e w' => e = .returned (tails s) ∧ Below w.heap.size w w' := by
  have lit : ∀ W : World, Own .u8 87 (W.alloc (.cells #[.int .u8 0, .int .u8 0, .int .u8 0] 87)) W.heap.size (some ⟨W.heap.size, 0, none⟩) 3 3 [0, 0, 0] := fun W =>
    Own.of_eq (Ownv.lit W #[.int .u8 0, .int .u8 0, .int .u8 0] 87 rfl (Nat.le_refl _) (by show 3 ≤ maxLen; unfold maxLen; omega)) rfl rfl
  have z0 := (((Ownv.alloc (Ownv.alloc (Ownv.alloc (lit w) (.cells #[.int .u8 0, .int .u8 0, .int .u8 0] 87)) (.cells #[.int .u8 0, .int .u8 0, .int .u8 0] 87)) (.cells #[.int .u8 0, .int .u8 0, .int .u8 0] 87))))
  have z1 := (Ownv.alloc (Ownv.alloc (lit (w.alloc (.cells #[.int .u8 0, .int .u8 0, .int .u8 0] 87))) (.cells #[.int .u8 0, .int .u8 0, .int .u8 0] 87)) (.cells #[.int .u8 0, .int .u8 0, .int .u8 0] 87))
  have z2 := (Ownv.alloc (lit ((w.alloc (.cells #[.int .u8 0, .int .u8 0, .int .u8 0] 87)).alloc (.cells #[.int .u8 0, .int .u8 0, .int .u8 0] 87))) (.cells #[.int .u8 0, .int .u8 0, .int .u8 0] 87))
  have z3 := lit (((w.alloc (.cells #[.int .u8 0, .int .u8 0, .int .u8 0] 87)).alloc (.cells #[.int .u8 0, .int .u8 0, .int .u8 0] 87)).alloc (.cells #[.int .u8 0, .int .u8 0, .int .u8 0] 87))
  simp only [World.size_alloc, Nat.add_assoc] at z1 z2 z3
  have Z0 := Lib.hid z0
  have Z1 := Lib.hid (Ownv.mono (base' := w.heap.size) z1 (by omega))
  have Z2 := Lib.hid (Ownv.mono (base' := w.heap.size) z2 (by omega))
  have Z3 := Lib.hid (Ownv.mono (base' := w.heap.size) z3 (by omega))
  clear z0 z1 z2 z3 lit
  have hb := stS_bd s
  go_enter Tryz.func60, Tryz.ntmps60
  go_wp2
  go_loopw [6, 0] (fun i v wr => RTailInv s w i v wr) (fun i _ _ => 3 - (intOf i).toNat)
  case atStart => exact ⟨0, by omega, rfl, rfl, ⟨_, Z2.out, by intro q hq; omega⟩, ⟨_, Z3.out, by intro q hq; omega⟩, Z0.out, Z1.out, ((((Below.refl _ w).alloc (Nat.le_refl _) _).alloc (by simp) _).alloc (by simp; omega) _).alloc (by simp; omega) _⟩
  case round =>
    obtain ⟨j, hj, rfl, rfl, hU, hZ, hX, hY, hB⟩ := hrel
    by_cases hlt : j < 3
    · obtain ⟨q1, q2, q3⟩ := tl_step s.1 s.2.1 s.2.2 j hlt
      change _ = tz s j at q2
      change _ = tu s j at q3
      have hwu : IntKind.u8.wrap (ib (tu s j)) = ib (tu s j) := by cases tu s j <;> decide
      have hwz : IntKind.u8.wrap (ib (tz s j)) = ib (tz s j) := by cases tz s j <;> decide
      have hhalf := tl_half (tlS s.1 s.2.1 s.2.2 j)
      rw [q3] at hhalf
      have hst := fun W => Lib.hid (rstep_any (tlS s.1 s.2.1 s.2.2 j) (tu s j) W)
      have q1' : stp (tlS s.1 s.2.1 s.2.2 j) (tu s j) = tlS s.1 s.2.1 s.2.2 (j + 1) := q1
      have q2' : par (tlS s.1 s.2.1 s.2.2 j) (tu s j) = tz s j := q2
      rw [q1', q2'] at hst
      have hsb := stS_bd (tlS s.1 s.2.1 s.2.2 j)
      clear q1 q2 q3 q1' q2' Z0 Z1 Z2 Z3
      obtain ⟨vu, hOu, hqu⟩ := hU
      obtain ⟨vz, hOz, hqz⟩ := hZ
      have HN := Lib.hid (rtail_next s w wr j hlt vu vz hOu hqu hOz hqz hX hY hB _ _ rfl rfl)
      have HQU := Lib.hid hqu
      have HQZ := Lib.hid hqz
      clear hqu hqz hX hY hB
      generalize ib (tu s j) = iu at *
      generalize ib (tz s j) = iz at *
      generalize stS (tlS s.1 s.2.1 s.2.2 j) = st at *
      generalize stS (tlS s.1 s.2.1 s.2.2 (j + 1)) = st' at *
      obtain ⟨hs0, hs1⟩ := hsb
      rcases (by omega : j = 0 ∨ j = 1 ∨ j = 2) with rfl | rfl | rfl
      all_goals try simp only [Int.ofNat_zero, Int.ofNat_one, Int.cast_ofNat_Int]
      · have hcu := Rd.cell (Own.rd hOu) hlt
        have hcz := Rd.cell (Own.rd hOz) hlt
        have hfu := Ownv.frozen hOu (by omega) 0
        have hfz := Ownv.frozen hOz (by omega) 0
        simp only [adr_some, Nat.zero_add] at hcu hcz hfu hfz
        clear hOu hOz
        go_wp2_with (go_at_call 104; refine (hst _).out.mono ?_; rintro e w4 ⟨rfl, rfl⟩)
        go_roundw
        case rel => exact HN.out
        case measure => simp [intOf]
      · have hcu := Rd.cell (Own.rd hOu) hlt
        have hcz := Rd.cell (Own.rd hOz) hlt
        have hfu := Ownv.frozen hOu (by omega) 1
        have hfz := Ownv.frozen hOz (by omega) 1
        simp only [adr_some, Nat.zero_add] at hcu hcz hfu hfz
        clear hOu hOz
        go_wp2_with (go_at_call 104; refine (hst _).out.mono ?_; rintro e w4 ⟨rfl, rfl⟩)
        go_roundw
        case rel => exact HN.out
        case measure => simp [intOf]
      · have hcu := Rd.cell (Own.rd hOu) hlt
        have hcz := Rd.cell (Own.rd hOz) hlt
        have hfu := Ownv.frozen hOu (by omega) 2
        have hfz := Ownv.frozen hOz (by omega) 2
        simp only [adr_some, Nat.zero_add] at hcu hcz hfu hfz
        clear hOu hOz
        go_wp2_with (go_at_call 104; refine (hst _).out.mono ?_; rintro e w4 ⟨rfl, rfl⟩)
        go_roundw
        case rel => exact HN.out
        case measure => simp [intOf]
    · obtain rfl : j = 3 := by omega
      have HU := Lib.hid hU.vals
      have HZ := Lib.hid hZ.vals
      have u0 := Rd.cell (Own.rd HU.out) (j := 0) (by omega)
      have u1 := Rd.cell (Own.rd HU.out) (j := 1) (by omega)
      have u2 := Rd.cell (Own.rd HU.out) (j := 2) (by omega)
      have z0 := Rd.cell (Own.rd HZ.out) (j := 0) (by omega)
      have z1 := Rd.cell (Own.rd HZ.out) (j := 1) (by omega)
      have z2 := Rd.cell (Own.rd HZ.out) (j := 2) (by omega)
      have x0 := Rd.cell (Own.rd hX) (j := 0) (by omega)
      have x1 := Rd.cell (Own.rd hX) (j := 1) (by omega)
      have x2 := Rd.cell (Own.rd hX) (j := 2) (by omega)
      have y0 := Rd.cell (Own.rd hY) (j := 0) (by omega)
      have y1 := Rd.cell (Own.rd hY) (j := 1) (by omega)
      have y2 := Rd.cell (Own.rd hY) (j := 2) (by omega)
      have fx0 := Ownv.frozen hX (by omega) 0
      have fx1 := Ownv.frozen hX (by omega) 1
      have fx2 := Ownv.frozen hX (by omega) 2
      have fy0 := Ownv.frozen hY (by omega) 0
      have fy1 := Ownv.frozen hY (by omega) 1
      have fy2 := Ownv.frozen hY (by omega) 2
      have gi0 : ∀ x y z, gi [x, y, z] 0 = x := fun _ _ _ => rfl
      have gi1 : ∀ x y z, gi [x, y, z] 1 = y := fun _ _ _ => rfl
      have gi2 : ∀ x y z, gi [x, y, z] 2 = z := fun _ _ _ => rfl
      simp only [gi0, gi1, gi2] at u0 u1 u2 z0 z1 z2 x0 x1 x2 y0 y1 y2
      simp only [adr_some, Nat.zero_add] at u0 u1 u2 z0 z1 z2 x0 x1 x2 y0 y1 y2 fx0 fx1 fx2 fy0 fy1 fy2
      have HX := Lib.hid hX
      have HY := Lib.hid hY
      have HB := Lib.hid hB
      clear gi0 gi1 gi2 hU hZ hX hY hB Z0 Z1 Z2 Z3
      go_wp2
      go_region
      go_wp2
      have hne : (some (blk (some ⟨w.heap.size + 1, 0, none⟩))) ≠ some w.heap.size := fun he => by have := Option.some.inj he; simp [blk] at this
      have hne' : (some (blk (some ⟨w.heap.size, 0, none⟩))) ≠ some (w.heap.size + 1) := fun he => by have := Option.some.inj he; simp [blk] at this
      have s1 := Own.set3 HX.out (ib (tu s 0)) (ib (tu s 1)) (ib (tu s 2))
      have s2 := Own.set3 (Ownv.grown HY.out s1.2 (fun _ => hne)) (ib (tz s 0)) (ib (tz s 1)) (ib (tz s 2))
      have s3 : Own .u8 87 _ _ _ 3 3 _ := Ownv.grown s1.1 s2.2 (fun _ => hne')
      have b1 := HB.out.grown s1.2 HB.out.size (fun k hk => by have := Option.some.inj hk; omega)
      have b2 := b1.grown s2.2 b1.size (fun k hk => by have := Option.some.inj hk; omega)
      refine bodyPost_ret (v := tails s) ?_ rfl ⟨rfl, b2.drew⟩
      rw [results_cc rfl]
      have l1 := load_u8x3 (Ownv.drew s3)
      have l2 := load_u8x3 (Ownv.drew s2.1)
      simp [asAddr, l1, l2, Sem.run_pure, tails]
end Go.Proofs.YtcbbkflnenkpgaaGreat.Tu

namespace Go.Proofs.YtcbbkflnenkpgaaGreat.Tu
open Go.RowKit
set_option linter.unusedVariables false
section
variable {P : Program} {w w' w0 : World} {A B : Option Addr} {n c m d g : Nat} {vs us : List Value} {e : TypeId}
theorem bal (h : Below w0.heap.size w0 w) (o : Obj) : Below w0.heap.size w0 (w.alloc o) := h.alloc h.size o
theorem heap_new' {N : Nat} {o : Obj} (hN : N = w.heap.size) : (w.alloc o).heap[N]? = some o := by subst hN; exact heap_alloc_new _ _
theorem heap_old' {N : Nat} {o x : Obj} (h : w.heap[N]? = some x) : (w.alloc o).heap[N]? = some x := by
  rw [heap_alloc_old (h := (Array.getElem?_eq_some_iff.1 h).1)]; exact h
theorem Ownv.of_heap {cs : Array Value} {base : Nat} (h : w.heap[g]? = some (.cells cs e (0, 0))) (hb : base ≤ g) (hm : cs.size ≤ maxLen) : Ownv e w base (some ⟨g, 0, none⟩) cs.size cs.size cs.toList :=
  ⟨by simp, .inr ⟨g, cs.size, cs, rfl, hb, h, Nat.le_refl _, hm, by simp, by rw [Nat.mul_one]; exact List.take_of_length_le (by simp)⟩⟩
/-- append onto a row made since w0; all that is older stays -/
theorem wp_appB {o : Oper} {a : Act} {K : Act → World → Prop} {Q : Exit → Act → World → Prop} (s x : Operand) (t : TypeId)
    (ho : o.op = .call { callee := .builtin .append, args := #[s, x], argTypes := #[t, t] }) {z : Value} {bytes : Nat} (hE : El P t e z bytes) (hs : a.eval s = .slice A n c) (hx : a.eval x = .slice B m d)
    (hB : Below w0.heap.size w0 w) (hO : Ownv e w w0.heap.size A n c vs) (hR : Rdv w B m d us) (h1 : ∀ u ∈ us, u.oneCell' = true) (hby : (n + m) * bytes ≤ 140737488355328) (hm : n + m ≤ maxLen)
    (h : ∀ A' c' w', Ownv e w' w0.heap.size A' (n + m) c' (vs ++ us) → Below w0.heap.size w0 w' → (∀ g, g < w.heap.size → some g ≠ (Value.slice A n c).ownBlock → w'.heap[g]? = w.heap[g]?) → K (a.put o.dst (.slice A' (n + m) c')) w') : o.wp P a w K Q := by
  refine wp_app s x t ho hE hs hx hO hR h1 hby hm hB.size ?_
  intro A' c' w' h2 h3
  exact h A' c' w' h2 (hB.grown h3 hB.size (fun k hk => Ownv.ob' hO hk)) h3.block
end
theorem heap_lt {w : World} {g : Nat} {x : Obj} (h : w.heap[g]? = some x) : g < w.heap.size := (Array.getElem?_eq_some_iff.1 h).1
set_option maxRecDepth 100000 in
theorem renc_len (A : Option Addr) (n c : Nat) (w : World) (hv : validK (n : Int) = false) :
    Calls Tryz.prog 24 #[.slice A n c] w fun e w' => e = .returned (.tuple #[.slice none 0 0, .int .i64 2]) ∧ Below w.heap.size w w' := by
  have ho := fun W => Lib.hid (rorder_any (n : Int) W)
  have e1 : permE (n : Int) = 2 := by unfold permE; rw [if_neg (by rw [hv]; decide)]
  rw [e1] at ho
  clear e1 hv
  go_enter Tryz.func24, Tryz.ntmps24
  go_wp2_with (go_at_call 58; refine (ho _).out.mono ?_; rintro e w1 ⟨B, m, d, rfl, hO, hB⟩)
  go_ret2
  exact ⟨rfl, hB⟩
set_option maxRecDepth 100000 in
theorem renc_bit (A : Option Addr) (n c : Nat) (xs : List Int) (w : World) (h : Rd .u8 w A n c xs) (h0 : ∀ x ∈ xs, 0 ≤ x) (hv : validK (n : Int) = true) (hb : ValidB xs = false) :
    Calls Tryz.prog 24 #[.slice A n c] w fun e w' => e = .returned (.tuple #[.slice none 0 0, .int .i64 3]) ∧ Below w.heap.size w w' := by
  have ho := fun W => Lib.hid (rorder_any (n : Int) W)
  have e1 : permE (n : Int) = 0 := by unfold permE; rw [if_pos hv]
  obtain ⟨n0, n1⟩ := valid_len hv
  rw [e1] at ho
  have hq := fun W h => Lib.hid (rtencode_bad A n c xs W h h0 (by omega) hb)
  have HH := Lib.hid h
  clear e1 hv hb h h0
  go_enter Tryz.func24, Tryz.ntmps24
  go_wp2_with (first
    | (go_at_call 58; refine (ho _).out.mono ?_; rintro e w1 ⟨B, m, d, rfl, hO, hB⟩)
    | (go_at_call 59; refine (hq _ (Rdv.below HH.out hB)).out.mono ?_; rintro e w2 ⟨rfl, hB2⟩))
  go_ret2
  exact ⟨rfl, hB.trans (hB2.mono hB.size)⟩
def RMixInv (w : World) (n : Nat) (M : Option Addr) (xs : List Int) (i : Value) (wr : World) : Prop :=
  ∃ (j : Nat) (vs : List Int), j ≤ n ∧ i = .int .i64 j ∧ Own .u8 5 wr w.heap.size M n n vs ∧ (∀ q, q < j → gi vs q = gi xs (piN n q)) ∧ Below w.heap.size w wr
theorem ordR_gi {n : Nat} (hv : validK (n : Int) = true) {j : Nat} (hj : j < n) : gi (ordR (n : Int)) j = (piN n j : Int) := by
  unfold ordR
  rw [if_pos hv, Int.toNat_natCast]
  rw [gi_eq _ _ (by simp [ordL]; omega)]
  simp [ordL]
theorem own_ne_size {e : TypeId} {w : World} {base : Nat} {A : Option Addr} {n c : Nat} {vs : List Value} (h : Ownv e w base A n c vs) : some w.heap.size ≠ (Value.slice A n c).ownBlock := fun he => by
  have := (h.ow.lt _ he.symm).2
  omega
def RegP (W0 : World) (N : Nat) (V : List Value) (v : Value) (wx : World) : Prop := ∃ A c, v = .slice A N c ∧ Ownv 5 wx W0.heap.size A N c V ∧ Below W0.heap.size W0 wx
set_option maxRecDepth 100000 in
set_option maxHeartbeats 1000000 in
theorem renc_any (A : Option Addr) (n c : Nat) (bs : List Bool) (w : World) (h : Rd .u8 w A n c (bs.map ib)) (hv : validK (n : Int) = true) :
    Calls Tryz.prog 24 #[.slice A n c] w fun e w' => ∃ A' c', e = .returned (.tuple #[.slice A' (3 * (n + 4)) c', .int .i64 0]) ∧ Own .u8 5 w' w.heap.size A' (3 * (n + 4)) c' (wordI bs) ∧ Below w.heap.size w w' := by
  have hbd := h.bd.1
  obtain ⟨n0, n1⟩ := valid_len hv
  have hlen : bs.length = n := by have := h.len; simpa using this
  have HMIX : Hid ((mixB bs).map ib = (List.range n).map (fun i => gi (bs.map ib) (piN n i))) := Lib.hid (by
    rw [← mixR_ib bs (by rw [hlen]; exact hv)]; unfold mixR; rw [List.length_map, hlen, if_pos hv])
  have HML := Lib.hid (mixB_len bs)
  have HLEN := Lib.hid hlen
  have ho := fun W => Lib.hid (rorder_any (n : Int) W)
  have e1 : permE (n : Int) = 0 := by unfold permE; rw [if_pos hv]
  rw [e1] at ho
  have HORD : Hid (∀ j, j < n → gi (ordR (n : Int)) j = (piN n j : Int)) := Lib.hid (fun j hj => ordR_gi hv hj)
  have HH := Lib.hid h
  clear e1 h hlen
  go_enter Tryz.func24, Tryz.ntmps24
  go_wp2_with fail
  refine (ho _).out.mono ?_
  rintro e w1 ⟨D, l, d, rfl, hOD, hB1⟩
  obtain rfl : n = l := by
    have h9 := (Own.rd hOD).len
    unfold ordR at h9
    rw [if_pos hv, Int.toNat_natCast] at h9
    simpa [ordL] using h9
  have HOD := Lib.hid hOD
  have HB1 := Lib.hid hB1
  clear hOD hB1 ho hv
  have hq := fun W h => Lib.hid (rtencode_any A n c bs W h (by omega) (by omega))
  go_wp2_with fail
  refine (hq _ (Rdv.below HH.out HB1.out)).out.mono ?_
  rintro e w2 ⟨A1, c1, rfl, hP1, hB2⟩
  have HB2 := Lib.hid (HB1.out.trans (hB2.mono HB1.out.size))
  have HOD2 := Lib.hid (Ownv.below HOD.out hB2)
  have HP1 := Lib.hid (Ownv.mono hP1 HB1.out.size)
  clear hP1 hB2 hq HOD HB1
  go_wp2_with (at_make; refine list_of rfl fun K hK => wp_mk (n := n) _ _ 25 rfl el22 rfl rfl (by omega) (by unfold maxLen; omega) ?_; intro M wm hOm hBm hM; refine hK _ _ ?_; clear hK K)
  have hst : RMixInv w2 n M (bs.map ib) (.int .i64 0) wm := ⟨0, List.replicate n 0, by omega, rfl, Own.of_eq hOm rfl (by simp), by intro q hq; omega, hBm⟩
  have HHB := Lib.hid (Rdv.below HH.out HB2.out)
  clear hOm hBm
  go_loopw [11] (fun i wr => RMixInv w2 n M (bs.map ib) i wr) (fun i _ => n - (intOf i).toNat)
  case atStart => exact hst
  case round =>
    obtain ⟨j, vs, hj, rfl, hO, hq, hB⟩ := hrel
    clear hst
    by_cases hlt : j < n
    · have hR := Ownv.rd (Ownv.below HOD2.out hB)
      have hx := Rdv.below HHB.out hB
      have hp : piN n j < n := Nat.mod_lt _ (by omega)
      have hix := fun W => Rdv.ix hR el33 hlt .i64 W
      have hcell : wr.cell? (adr D j) = some (.int .i64 (gi (ordR (n : Int)) j)) := Rd.cell hR hlt
      rw [HORD.out j hlt] at hcell
      have HPI : Hid (piN n j = piN n j) := Lib.hid rfl
      generalize hpv : piN n j = pv at *
      have HPV := Lib.hid hpv
      have hix2 := fun W => Rdv.ix hx el22 hp .i64 W
      have hcell2 := Rd.cell hx hp
      have hix3 := fun W => Rdv.ix (Own.rd hO) el22 hlt .i64 W
      have hcell3 := Rd.cell (Own.rd hO) hlt
      have hfz := Ownv.frozen hO (by omega) j
      have HSET := Lib.hid (Own.set_ hO hlt (gi (bs.map ib) pv))
      have HQ := Lib.hid hq
      have HB := Lib.hid hB
      have HL := Lib.hid (Own.rd hO).len
      have HGE := Lib.hid (Ownv.blk_ge hO (by omega)).1
      clear hpv hR hx hq hB hO
      go_wp2
      go_roundw
      case rel =>
        refine ⟨j + 1, _, by omega, by go_num, HSET.out.1, fun q hq => ?_, HB.out.grown HSET.out.2 HB.out.size (fun k hk => by have := Option.some.inj hk; have := HGE.out; omega)⟩
        rw [gi_set _ _ _ _ (by rw [HL.out]; exact hlt)]
        by_cases e : j = q
        · subst e; rw [if_pos rfl, HPV.out]
        · rw [if_neg e]; exact HQ.out q (by omega)
      case measure => simp [intOf]; omega
    · obtain rfl : j = n := by omega
      have hmx : vs = (mixB bs).map ib := by
        rw [HMIX.out]
        have hl := (Own.rd hO).len
        refine ext_gi (by rw [hl]; simp) fun q hq' => ?_
        rw [hq q (by omega), gi_eq ((List.range j).map _) q (by simp; omega), List.getElem_map, List.getElem_range]
      subst hmx
      have hqm := fun W h => Lib.hid (rtencode_any M j j (mixB bs) W h (by omega) (by omega))
      have HO := Lib.hid hO
      have HB := Lib.hid hB
      clear hq hO hB
      have ht1 := fun W => Lib.hid (rtail_any (fin bs) W)
      have ht2 := fun W => Lib.hid (rtail_any (fin (mixB bs)) W)
      unfold tails at ht1 ht2
      generalize hs : fin bs = s at *
      generalize hm : fin (mixB bs) = m at *
      have HS := Lib.hid hs
      have HM := Lib.hid hm
      clear hs hm
      go_wp2_with fail
      refine (hqm _ (Own.rd HO.out)).out.mono ?_
      rintro e w4 ⟨A2, c2, rfl, hP2, hB4⟩
      have HB4 := Lib.hid hB4
      have HP2 := Lib.hid hP2
      clear hqm hB4 hP2
      go_wp2_with fail
      refine (ht1 _).out.mono ?_
      rintro e w5 ⟨rfl, hB5⟩
      have HB5 := Lib.hid hB5
      clear hB5
      go_wp2_with fail
      refine (ht2 _).out.mono ?_
      rintro e w6 ⟨rfl, hB6⟩
      have HB6 := Lib.hid hB6
      clear hB6
      go_wp2_with fail
      have hB6 : Below w2.heap.size w2 w6 := ((((HB.out.trans (HB4.out.mono HB.out.size)).trans (HB5.out.mono (by have := HB.out.size; have := HB4.out.size; omega))).alloc (by have := HB.out.size; have := HB4.out.size; have := HB5.out.size; omega) (.cells #[.int .u8 (ib (tu s 0)), .int .u8 (ib (tu s 1)), .int .u8 (ib (tu s 2))] 87)).alloc (by have := HB.out.size; have := HB4.out.size; have := HB5.out.size; simp; omega) (.cells #[.int .u8 (ib (tz s 0)), .int .u8 (ib (tz s 1)), .int .u8 (ib (tz s 2))] 87)).trans (HB6.out.mono (by have := HB.out.size; have := HB4.out.size; have := HB5.out.size; simp; omega))
      have hB7 := bal (bal hB6 (.cells #[.int .u8 (ib (tu m 0)), .int .u8 (ib (tu m 1)), .int .u8 (ib (tu m 2))] 87)) (.cells #[.int .u8 (ib (tz m 0)), .int .u8 (ib (tz m 1)), .int .u8 (ib (tz m 2))] 87)
      have hW4 := ((HB4.out.trans (HB5.out.mono HB4.out.size)))
      obtain ⟨W0, hW0⟩ : ∃ W, W = (w6.alloc (.cells #[.int .u8 (ib (tu m 0)), .int .u8 (ib (tu m 1)), .int .u8 (ib (tu m 2))] 87)).alloc (.cells #[.int .u8 (ib (tz m 0)), .int .u8 (ib (tz m 1)), .int .u8 (ib (tz m 2))] 87) := ⟨_, rfl⟩
      have lit : ∀ (W : World) (x y z : Int), Own .u8 87 (W.alloc (.cells #[.int .u8 x, .int .u8 y, .int .u8 z] 87)) 0 (some ⟨W.heap.size, 0, none⟩) 3 3 [x, y, z] := fun W x y z =>
        Own.of_eq (Ownv.lit W #[.int .u8 x, .int .u8 y, .int .u8 z] 87 rfl (Nat.zero_le _) (by show 3 ≤ maxLen; unfold maxLen; omega)) rfl rfl
      have aX : Own .u8 87 W0 0 (some ⟨w5.heap.size, 0, none⟩) 3 3 [ib (tu s 0), ib (tu s 1), ib (tu s 2)] := by
        rw [hW0]; exact Ownv.alloc (Ownv.alloc (Ownv.below (Ownv.alloc (lit w5 _ _ _) (.cells #[.int .u8 (ib (tz s 0)), .int .u8 (ib (tz s 1)), .int .u8 (ib (tz s 2))] 87)) HB6.out) _) _
      have aZ : Own .u8 87 W0 0 (some ⟨w5.heap.size + 1, 0, none⟩) 3 3 [ib (tz s 0), ib (tz s 1), ib (tz s 2)] := by
        have h9 := lit (w5.alloc (.cells #[.int .u8 (ib (tu s 0)), .int .u8 (ib (tu s 1)), .int .u8 (ib (tu s 2))] 87)) (ib (tz s 0)) (ib (tz s 1)) (ib (tz s 2))
        simp only [World.size_alloc] at h9
        rw [hW0]; exact Ownv.alloc (Ownv.alloc (Ownv.below h9 HB6.out) _) _
      have aU : Own .u8 87 W0 0 (some ⟨w6.heap.size, 0, none⟩) 3 3 [ib (tu m 0), ib (tu m 1), ib (tu m 2)] := by
        rw [hW0]; exact Ownv.alloc (lit w6 _ _ _) _
      have aV : Own .u8 87 W0 0 (some ⟨w6.heap.size + 1, 0, none⟩) 3 3 [ib (tz m 0), ib (tz m 1), ib (tz m 2)] := by
        have h9 := lit (w6.alloc (.cells #[.int .u8 (ib (tu m 0)), .int .u8 (ib (tu m 1)), .int .u8 (ib (tu m 2))] 87)) (ib (tz m 0)) (ib (tz m 1)) (ib (tz m 2))
        simp only [World.size_alloc] at h9
        rw [hW0]; exact h9
      rw [← hW0] at hB7
      have HBI := Lib.hid (Rdv.below HHB.out hB7)
      have HPA := Lib.hid (Ownv.rd (Ownv.below HP1.out hB7))
      have hB47 : Below w4.heap.size w4 W0 := by
        rw [hW0]
        exact bal (bal (((bal (bal HB5.out (.cells #[.int .u8 (ib (tu s 0)), .int .u8 (ib (tu s 1)), .int .u8 (ib (tu s 2))] 87)) (.cells #[.int .u8 (ib (tz s 0)), .int .u8 (ib (tz s 1)), .int .u8 (ib (tz s 2))] 87))).trans (HB6.out.mono (bal (bal HB5.out (.cells #[.int .u8 (ib (tu s 0)), .int .u8 (ib (tu s 1)), .int .u8 (ib (tu s 2))] 87)) (.cells #[.int .u8 (ib (tz s 0)), .int .u8 (ib (tz s 1)), .int .u8 (ib (tz s 2))] 87)).size)) _) _
      have HPB := Lib.hid (Ownv.rd (Ownv.below HP2.out hB47))
      have HBW : Hid (Below w.heap.size w W0) := Lib.hid (HB2.out.trans (hB7.mono HB2.out.size))
      have HAX := Lib.hid aX
      have HAZ := Lib.hid aZ
      have HAU := Lib.hid aU
      have HAV := Lib.hid aV
      rw [← hW0]
      clear hW0 aX aZ aU aV hB7 hB6 hB47 hW4 lit
      have HC0 : Hid (∀ W' : World, Below W0.heap.size W0 W' → W'.cell? ⟨w5.heap.size, 0, none⟩ = some (.int .u8 (ib (tu s 0))) ∧ W'.cell? ⟨w5.heap.size + 1, 1, none⟩ = some (.int .u8 (ib (tz s 1))) ∧ W'.cell? ⟨w6.heap.size, 0, none⟩ = some (.int .u8 (ib (tu m 0))) ∧ W'.cell? ⟨w6.heap.size + 1, 1, none⟩ = some (.int .u8 (ib (tz m 1)))) := Lib.hid (fun W' hB => ⟨by have := Rd.cell (Own.rd (Ownv.below HAX.out hB)) (j := 0) (by omega); simpa [gi] using this, by have := Rd.cell (Own.rd (Ownv.below HAZ.out hB)) (j := 1) (by omega); simpa [gi] using this, by have := Rd.cell (Own.rd (Ownv.below HAU.out hB)) (j := 0) (by omega); simpa [gi] using this, by have := Rd.cell (Own.rd (Ownv.below HAV.out hB)) (j := 1) (by omega); simpa [gi] using this⟩)
      go_cut [19] (fun v wx => RegP W0 (j + 4) (((bs.map ib)).map (Value.int .u8) ++ [.int .u8 (ib (tu s 0)), .int .u8 (ib (tz s 1)), .int .u8 (ib (tu m 0)), .int .u8 (ib (tz m 1))]) v wx)
      case first =>
        go_region_held3 (fun W => W.cell? ⟨w5.heap.size, 0, none⟩ = some (.int .u8 (ib (tu s 0))) ∧ W.cell? ⟨w5.heap.size + 1, 1, none⟩ = some (.int .u8 (ib (tz s 1))) ∧ W.cell? ⟨w6.heap.size, 0, none⟩ = some (.int .u8 (ib (tu m 0))) ∧ W.cell? ⟨w6.heap.size + 1, 1, none⟩ = some (.int .u8 (ib (tz m 1)))) (exact HC0.out _ (by first | exact (Below.refl _ W0) | exact (Below.refl _ W0).drew | exact bal (Below.refl _ W0).drew _ | exact bal (bal (Below.refl _ W0).drew _) _ | exact hB0a | exact bal hB0a _ | exact hB0b))
          (first
            | (refine step_of rfl ?_
               refine wp_appB (w0 := W0) (vs := []) (.tmp 70) (.tmp 71) 25 rfl el22 rfl rfl ?_ ?_ (us := ((bs.map ib)).map (Value.int .u8)) ?_ (oneCell_ints .u8 _) (by omega) (by unfold maxLen; omega) ?_
               · first | exact (Below.refl _ W0) | exact (Below.refl _ W0).drew | exact bal (Below.refl _ W0).drew _ | exact bal (bal (Below.refl _ W0).drew _) _ | exact hB0a | exact bal hB0a _ | exact hB0b
               · exact Ownv.of_heap (cs := #[]) (by first | exact heap_new' (by simp) | exact heap_old' (heap_new' (by simp))) (by simp) (by show 0 ≤ maxLen; omega)
               · refine Rdv.below HBI.out ?_
                 first | exact (Below.refl _ W0) | exact (Below.refl _ W0).drew | exact bal (Below.refl _ W0).drew _ | exact bal (bal (Below.refl _ W0).drew _) _ | exact hB0a | exact bal hB0a _ | exact hB0b
               intro A0a c0a w0a hO0a hB0a hk0
               have hO0r := hO0a
               rw [Nat.zero_add, List.nil_append] at hO0a)
            | (refine step_of rfl ?_
               refine wp_appB (w0 := W0) (vs := ((bs.map ib)).map (Value.int .u8)) (.tmp 72) (.tmp 81) 25 rfl el22 rfl rfl ?_ ?_ (us := [.int .u8 (ib (tu s 0)), .int .u8 (ib (tz s 1)), .int .u8 (ib (tu m 0)), .int .u8 (ib (tz m 1))]) ?_ ?_ ?_ ?_ ?_
               · first | exact (Below.refl _ W0) | exact (Below.refl _ W0).drew | exact bal (Below.refl _ W0).drew _ | exact bal (bal (Below.refl _ W0).drew _) _ | exact hB0a | exact bal hB0a _ | exact hB0b
               · first | exact hO0a | exact hO0a.alloc _ | exact hO0r | exact hO0r.alloc _
               · refine Ownv.rd (Ownv.of_heap (e := 5) (base := 0) (cs := #[.int .u8 (ib (tu s 0)), .int .u8 (ib (tz s 1)), .int .u8 (ib (tu m 0)), .int .u8 (ib (tz m 1))]) ?_ (Nat.zero_le _) (by show 4 ≤ maxLen; unfold maxLen; omega))
                 first | exact heap_new' (by simp) | exact (hk0 _ (by simp <;> omega) hne0).trans (heap_new' (by simp)) | exact (hk0 _ (by simp <;> omega) (by simp [Value.ownBlock])).trans (heap_new' (by simp)) | exact (hk0 _ (by simp <;> omega) (by simp [Value.ownBlock])).trans (heap_old' (heap_new' (by simp)))
               · exact oneCell_ints .u8 [(ib (tu s 0)), (ib (tz s 1)), (ib (tu m 0)), (ib (tz m 1))]
               · omega
               · unfold maxLen; omega
               intro A0b c0b w0b hO0b hB0b hk0b))
        all_goals (go_wp2_with fail; go_meet; exact ⟨A0b, c0b, by first | rfl | rw [Nat.zero_add], by first | exact hO0b | (have h9 := hO0b; rw [Nat.zero_add] at h9; exact h9), hB0b⟩)
      case rest =>
        obtain ⟨A0c, c0c, rfl, hO0c, hB0c⟩ := hcut
        have hne1 := own_ne_size hO0c
        go_wp2_with fail
        have HC1 : Hid (∀ W' : World, Below W0.heap.size W0 W' → W'.cell? ⟨w5.heap.size + 1, 0, none⟩ = some (.int .u8 (ib (tz s 0))) ∧ W'.cell? ⟨w5.heap.size, 2, none⟩ = some (.int .u8 (ib (tu s 2))) ∧ W'.cell? ⟨w6.heap.size + 1, 0, none⟩ = some (.int .u8 (ib (tz m 0))) ∧ W'.cell? ⟨w6.heap.size, 2, none⟩ = some (.int .u8 (ib (tu m 2)))) := Lib.hid (fun W' hB => ⟨by have := Rd.cell (Own.rd (Ownv.below HAZ.out hB)) (j := 0) (by omega); simpa [gi] using this, by have := Rd.cell (Own.rd (Ownv.below HAX.out hB)) (j := 2) (by omega); simpa [gi] using this, by have := Rd.cell (Own.rd (Ownv.below HAV.out hB)) (j := 0) (by omega); simpa [gi] using this, by have := Rd.cell (Own.rd (Ownv.below HAU.out hB)) (j := 2) (by omega); simpa [gi] using this⟩)
        go_cut [19] (fun v wx => RegP W0 (j + 4 + j + 4) ((((bs.map ib)).map (Value.int .u8) ++ [.int .u8 (ib (tu s 0)), .int .u8 (ib (tz s 1)), .int .u8 (ib (tu m 0)), .int .u8 (ib (tz m 1))]) ++ (((parL s0 bs).map ib)).map (Value.int .u8) ++ [.int .u8 (ib (tz s 0)), .int .u8 (ib (tu s 2)), .int .u8 (ib (tz m 0)), .int .u8 (ib (tu m 2))]) v wx)
        case first =>
          go_region_held3 (fun W => W.cell? ⟨w5.heap.size + 1, 0, none⟩ = some (.int .u8 (ib (tz s 0))) ∧ W.cell? ⟨w5.heap.size, 2, none⟩ = some (.int .u8 (ib (tu s 2))) ∧ W.cell? ⟨w6.heap.size + 1, 0, none⟩ = some (.int .u8 (ib (tz m 0))) ∧ W.cell? ⟨w6.heap.size, 2, none⟩ = some (.int .u8 (ib (tu m 2)))) (exact HC1.out _ (by first | exact hB0c | exact hB0c.drew | exact bal hB0c.drew _ | exact bal (bal hB0c.drew _) _ | exact hB1a | exact bal hB1a _ | exact hB1b))
            (first
              | (refine step_of rfl ?_
                 refine wp_appB (w0 := W0) (vs := (((bs.map ib)).map (Value.int .u8) ++ [.int .u8 (ib (tu s 0)), .int .u8 (ib (tz s 1)), .int .u8 (ib (tu m 0)), .int .u8 (ib (tz m 1))])) (.tmp 83) (.tmp 84) 25 rfl el22 rfl rfl ?_ ?_ (us := (((parL s0 bs).map ib)).map (Value.int .u8)) ?_ (oneCell_ints .u8 _) (by omega) (by unfold maxLen; omega) ?_
                 · first | exact hB0c | exact hB0c.drew | exact bal hB0c.drew _ | exact bal (bal hB0c.drew _) _ | exact hB1a | exact bal hB1a _ | exact hB1b
                 · first | exact hO0c | exact hO0c.drew | exact hO0c.drew.alloc _
                 · refine Rdv.below HPA.out ?_
                   first | exact hB0c | exact hB0c.drew | exact bal hB0c.drew _ | exact bal (bal hB0c.drew _) _ | exact hB1a | exact bal hB1a _ | exact hB1b
                 intro A1a c1a w1a hO1a hB1a hk1)
              | (refine step_of rfl ?_
                 refine wp_appB (w0 := W0) (vs := (((bs.map ib)).map (Value.int .u8) ++ [.int .u8 (ib (tu s 0)), .int .u8 (ib (tz s 1)), .int .u8 (ib (tu m 0)), .int .u8 (ib (tz m 1))]) ++ (((parL s0 bs).map ib)).map (Value.int .u8)) (.tmp 85) (.tmp 94) 25 rfl el22 rfl rfl ?_ ?_ (us := [.int .u8 (ib (tz s 0)), .int .u8 (ib (tu s 2)), .int .u8 (ib (tz m 0)), .int .u8 (ib (tu m 2))]) ?_ ?_ ?_ ?_ ?_
                 · first | exact hB0c | exact hB0c.drew | exact bal hB0c.drew _ | exact bal (bal hB0c.drew _) _ | exact hB1a | exact bal hB1a _ | exact hB1b
                 · first | exact hO1a | exact hO1a.alloc _
                 · refine Ownv.rd (Ownv.of_heap (e := 5) (base := 0) (cs := #[.int .u8 (ib (tz s 0)), .int .u8 (ib (tu s 2)), .int .u8 (ib (tz m 0)), .int .u8 (ib (tu m 2))]) ?_ (Nat.zero_le _) (by show 4 ≤ maxLen; unfold maxLen; omega))
                   first | exact heap_new' (by simp) | exact (hk1 _ (by simp <;> omega) hne1).trans (heap_new' (by simp)) | exact (hk1 _ (by simp <;> omega) (by simp [Value.ownBlock])).trans (heap_new' (by simp)) | exact (hk1 _ (by simp <;> omega) (by simp [Value.ownBlock])).trans (heap_old' (heap_new' (by simp)))
                 · exact oneCell_ints .u8 [(ib (tz s 0)), (ib (tu s 2)), (ib (tz m 0)), (ib (tu m 2))]
                 · omega
                 · unfold maxLen; omega
                 intro A1b c1b w1b hO1b hB1b hk1b))
          all_goals (go_wp2_with fail; go_meet; exact ⟨A1b, c1b, by first | rfl | rw [Nat.zero_add], by first | exact hO1b | (have h9 := hO1b; rw [Nat.zero_add] at h9; exact h9), hB1b⟩)
        case rest =>
          obtain ⟨A1c, c1c, rfl, hO1c, hB1c⟩ := hcut
          have hne2 := own_ne_size hO1c
          go_wp2_with fail
          have HC2 : Hid (∀ W' : World, Below W0.heap.size W0 W' → W'.cell? ⟨w5.heap.size, 1, none⟩ = some (.int .u8 (ib (tu s 1))) ∧ W'.cell? ⟨w5.heap.size + 1, 2, none⟩ = some (.int .u8 (ib (tz s 2))) ∧ W'.cell? ⟨w6.heap.size, 1, none⟩ = some (.int .u8 (ib (tu m 1))) ∧ W'.cell? ⟨w6.heap.size + 1, 2, none⟩ = some (.int .u8 (ib (tz m 2)))) := Lib.hid (fun W' hB => ⟨by have := Rd.cell (Own.rd (Ownv.below HAX.out hB)) (j := 1) (by omega); simpa [gi] using this, by have := Rd.cell (Own.rd (Ownv.below HAZ.out hB)) (j := 2) (by omega); simpa [gi] using this, by have := Rd.cell (Own.rd (Ownv.below HAU.out hB)) (j := 1) (by omega); simpa [gi] using this, by have := Rd.cell (Own.rd (Ownv.below HAV.out hB)) (j := 2) (by omega); simpa [gi] using this⟩)
          go_region_held3 (fun W => W.cell? ⟨w5.heap.size, 1, none⟩ = some (.int .u8 (ib (tu s 1))) ∧ W.cell? ⟨w5.heap.size + 1, 2, none⟩ = some (.int .u8 (ib (tz s 2))) ∧ W.cell? ⟨w6.heap.size, 1, none⟩ = some (.int .u8 (ib (tu m 1))) ∧ W.cell? ⟨w6.heap.size + 1, 2, none⟩ = some (.int .u8 (ib (tz m 2)))) (exact HC2.out _ (by first | exact hB1c | exact hB1c.drew | exact bal hB1c.drew _ | exact bal (bal hB1c.drew _) _ | exact hB2a | exact bal hB2a _ | exact hB2b))
            (first
              | (refine step_of rfl ?_
                 refine wp_appB (w0 := W0) (vs := ((((bs.map ib)).map (Value.int .u8) ++ [.int .u8 (ib (tu s 0)), .int .u8 (ib (tz s 1)), .int .u8 (ib (tu m 0)), .int .u8 (ib (tz m 1))]) ++ (((parL s0 bs).map ib)).map (Value.int .u8) ++ [.int .u8 (ib (tz s 0)), .int .u8 (ib (tu s 2)), .int .u8 (ib (tz m 0)), .int .u8 (ib (tu m 2))])) (.tmp 96) (.tmp 97) 25 rfl el22 rfl rfl ?_ ?_ (us := (((parL s0 (mixB bs)).map ib)).map (Value.int .u8)) ?_ (oneCell_ints .u8 _) (by omega) (by unfold maxLen; omega) ?_
                 · first | exact hB1c | exact hB1c.drew | exact bal hB1c.drew _ | exact bal (bal hB1c.drew _) _ | exact hB2a | exact bal hB2a _ | exact hB2b
                 · first | exact hO1c | exact hO1c.drew | exact hO1c.drew.alloc _
                 · refine Rdv.below HPB.out ?_
                   first | exact hB1c | exact hB1c.drew | exact bal hB1c.drew _ | exact bal (bal hB1c.drew _) _ | exact hB2a | exact bal hB2a _ | exact hB2b
                 intro A2a c2a w2a hO2a hB2a hk2)
              | (refine step_of rfl ?_
                 refine wp_appB (w0 := W0) (vs := ((((bs.map ib)).map (Value.int .u8) ++ [.int .u8 (ib (tu s 0)), .int .u8 (ib (tz s 1)), .int .u8 (ib (tu m 0)), .int .u8 (ib (tz m 1))]) ++ (((parL s0 bs).map ib)).map (Value.int .u8) ++ [.int .u8 (ib (tz s 0)), .int .u8 (ib (tu s 2)), .int .u8 (ib (tz m 0)), .int .u8 (ib (tu m 2))]) ++ (((parL s0 (mixB bs)).map ib)).map (Value.int .u8)) (.tmp 98) (.tmp 107) 25 rfl el22 rfl rfl ?_ ?_ (us := [.int .u8 (ib (tu s 1)), .int .u8 (ib (tz s 2)), .int .u8 (ib (tu m 1)), .int .u8 (ib (tz m 2))]) ?_ ?_ ?_ ?_ ?_
                 · first | exact hB1c | exact hB1c.drew | exact bal hB1c.drew _ | exact bal (bal hB1c.drew _) _ | exact hB2a | exact bal hB2a _ | exact hB2b
                 · first | exact hO2a | exact hO2a.alloc _
                 · refine Ownv.rd (Ownv.of_heap (e := 5) (base := 0) (cs := #[.int .u8 (ib (tu s 1)), .int .u8 (ib (tz s 2)), .int .u8 (ib (tu m 1)), .int .u8 (ib (tz m 2))]) ?_ (Nat.zero_le _) (by show 4 ≤ maxLen; unfold maxLen; omega))
                   first | exact heap_new' (by simp) | exact (hk2 _ (by simp <;> omega) hne2).trans (heap_new' (by simp)) | exact (hk2 _ (by simp <;> omega) (by simp [Value.ownBlock])).trans (heap_new' (by simp)) | exact (hk2 _ (by simp <;> omega) (by simp [Value.ownBlock])).trans (heap_old' (heap_new' (by simp)))
                 · exact oneCell_ints .u8 [(ib (tu s 1)), (ib (tz s 2)), (ib (tu m 1)), (ib (tz m 2))]
                 · omega
                 · unfold maxLen; omega
                 intro A2b c2b w2b hO2b hB2b hk2b))
          all_goals
            go_wp2
            go_ret2
            have e3 : 3 * (j + 4) = j + 4 + j + 4 + j + 4 := by omega
            refine ⟨A2b, c2b, by rw [e3]; rfl, Own.of_eq (Ownv.mono hO2b HBW.out.size) e3.symm ?_, HBW.out.trans (hB2b.mono HBW.out.size)⟩
            rw [wordI, wordB, HS.out, HM.out]
            simp
end Go.Proofs.YtcbbkflnenkpgaaGreat.Tu

namespace Go.Proofs.YtcbbkflnenkpgaaGreat.Tu
open Go.RowKit
set_option linter.unusedVariables false
def encE (xs : List Int) : Int := if validK (xs.length : Int) = true then (if ValidB xs = true then 0 else 3) else 2
def encW (xs : List Int) : List Int := if validK (xs.length : Int) = true then (if ValidB xs = true then wordI (toB xs) else []) else []
theorem wordI_len (bs : List Bool) : (wordI bs).length = 3 * (bs.length + 4) := by
  unfold wordI
  rw [List.length_map, wordB_len _ _ (mixB_len bs)]
theorem enc_all (A : Option Addr) (n c : Nat) (xs : List Int) (w : World) (h : Rd .u8 w A n c xs) (h0 : ∀ x ∈ xs, 0 ≤ x) :
    Calls Tryz.prog 22 #[.slice A n c] w fun e w' => ∃ A' m c', e = .returned (.tuple #[.slice A' m c', .int .i64 (encE xs)]) ∧ Own .u8 5 w' w.heap.size A' m c' (encW xs) ∧ Below w.heap.size w w' := by
  have hl := h.len
  by_cases hv : validK (n : Int) = true
  · by_cases hb : ValidB xs = true
    · have e1 : encE xs = 0 := by unfold encE; rw [hl, if_pos hv, if_pos hb]
      have e2 : encW xs = wordI (toB xs) := by unfold encW; rw [hl, if_pos hv, if_pos hb]
      rw [e1, e2]
      have ht := toB_ib xs h0 hb
      refine (enc_any A n c (toB xs) w (by rw [ht]; exact h) hv).mono ?_
      rintro e w' ⟨A', c', rfl, hO, hB⟩
      exact ⟨A', _, c', rfl, hO, hB⟩
    · have e1 : encE xs = 3 := by unfold encE; rw [hl, if_pos hv, if_neg hb]
      have e2 : encW xs = [] := by unfold encW; rw [hl, if_pos hv, if_neg hb]
      rw [e1, e2]
      refine (enc_badbit A n c xs w h hv (by simpa using hb)).mono ?_
      rintro e w' ⟨rfl, hB⟩
      exact ⟨none, 0, 0, rfl, Own.nilv _ _ _ _, hB⟩
  · have e1 : encE xs = 2 := by unfold encE; rw [hl, if_neg hv]
    have e2 : encW xs = [] := by unfold encW; rw [hl, if_neg hv]
    rw [e1, e2]
    refine (enc_badlen A n c w (by simpa using hv) (by have := h.bd.1; omega)).mono ?_
    rintro e w' ⟨rfl, hB⟩
    exact ⟨none, 0, 0, rfl, Own.nilv _ _ _ _, hB⟩
theorem renc_all (A : Option Addr) (n c : Nat) (xs : List Int) (w : World) (h : Rd .u8 w A n c xs) (h0 : ∀ x ∈ xs, 0 ≤ x) :
    Calls Tryz.prog 24 #[.slice A n c] w fun e w' => ∃ A' m c', e = .returned (.tuple #[.slice A' m c', .int .i64 (encE xs)]) ∧ Own .u8 5 w' w.heap.size A' m c' (encW xs) ∧ Below w.heap.size w w' := by
  have hl := h.len
  by_cases hv : validK (n : Int) = true
  · by_cases hb : ValidB xs = true
    · have e1 : encE xs = 0 := by unfold encE; rw [hl, if_pos hv, if_pos hb]
      have e2 : encW xs = wordI (toB xs) := by unfold encW; rw [hl, if_pos hv, if_pos hb]
      rw [e1, e2]
      have ht := toB_ib xs h0 hb
      refine (renc_any A n c (toB xs) w (by rw [ht]; exact h) hv).mono ?_
      rintro e w' ⟨A', c', rfl, hO, hB⟩
      exact ⟨A', _, c', rfl, hO, hB⟩
    · have e1 : encE xs = 3 := by unfold encE; rw [hl, if_pos hv, if_neg hb]
      have e2 : encW xs = [] := by unfold encW; rw [hl, if_pos hv, if_neg hb]
      rw [e1, e2]
      refine (renc_bit A n c xs w h h0 hv (by simpa using hb)).mono ?_
      rintro e w' ⟨rfl, hB⟩
      exact ⟨none, 0, 0, rfl, Own.nilv _ _ _ _, hB⟩
  · have e1 : encE xs = 2 := by unfold encE; rw [hl, if_neg hv]
    have e2 : encW xs = [] := by unfold encW; rw [hl, if_neg hv]
    rw [e1, e2]
    refine (renc_len A n c w (by simpa using hv)).mono ?_
    rintro e w' ⟨rfl, hB⟩
    exact ⟨none, 0, 0, rfl, Own.nilv _ _ _ _, hB⟩
end Go.Proofs.YtcbbkflnenkpgaaGreat.Tu

