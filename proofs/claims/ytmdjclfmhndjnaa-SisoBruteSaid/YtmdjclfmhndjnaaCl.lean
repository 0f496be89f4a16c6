/-
  Contract of siso.Metric. Condition: lists that lie in memory.
-/
import Derived.Test.YtmdjclfmhndjnaaCk
import Derived.Test.YtmdjclfmhndjnaaCi
namespace Go.Proofs.Ytmdjclfmhndjnaa
open Go.RowKit
set_option linter.unusedVariables false
set_option maxRecDepth 100000 in
theorem term2_any (bo : Nat) (o : Ob) (S P A : Option Addr) (cs cp ca i : Nat) (b : Br) (w : World) (h : ObsAt w bo o S P A cs cp ca) (hb : b.bt < 2 ∧ b.pr < 2) (ho : o.ok) (hi : i < o.s.length) :
    Calls Try.prog 43 #[.pointer (some ⟨bo, 0, none⟩), .int .i64 (i : Int), brA b] w fun e w' => e = .returned (.int .i64 (o.term i b)) ∧ Below w.heap.size w w' := by
  have h' := h.alloc (.cells #[.int .i64 (b.fr : Int), .int .i64 (b.bt : Int), .int .i64 (b.pr : Int), .int .i64 (b.tt : Int)] 77)
  have hc0 := h'.c0
  have hc1 := h'.c1
  have hc2 := h'.c2
  have hbd := (Rdv.bd h.s).1
  obtain ⟨b2, b3⟩ := hb
  have hx := o.x_bd ho i hi
  have hp := o.p_bd ho i hi
  have hpl : i < o.p.length := by have := ho.2.2.1; have := ho.2.2.2.1; omega
  have hixS := fun W => Rdv.ix h.s el22 hi .i64 W
  have hixP := fun W => Rdv.ix h.p el22 hpl .i64 W
  have hcS := Rd.cell h'.s hi
  have hcP := Rd.cell h'.p hpl
  have q1 := sgn_bd (o.x i) 254 b.bt b2 hx
  have q2 := sgn_bd (gi o.p i) 127 b.pr b3 hp
  have hsv : -127 ≤ gi o.s i ∧ gi o.s i ≤ 127 := ho.2.2.2.2.1 _ (gi_mem o.s i hi)
  have w1 : IntKind.i64.wrap (2 * (b.bt : Int)) = 2 * (b.bt : Int) := IntWalk.i64_in _ (by omega)
  have w2 : IntKind.i64.wrap (1 - 2 * (b.bt : Int)) = 1 - 2 * (b.bt : Int) := IntWalk.i64_in _ (by omega)
  have w3 : IntKind.i64.wrap (2 * (b.pr : Int)) = 2 * (b.pr : Int) := IntWalk.i64_in _ (by omega)
  have w4 : IntKind.i64.wrap (1 - 2 * (b.pr : Int)) = 1 - 2 * (b.pr : Int) := IntWalk.i64_in _ (by omega)
  have w6 : IntKind.i64.wrap (gi o.p i * (1 - 2 * (b.pr : Int))) = gi o.p i * (1 - 2 * (b.pr : Int)) := IntWalk.i64_in _ (by omega)
  unfold brA
  unfold Ob.term
  by_cases hk : i < o.k
  · have hd : decide ((i : Int) < (o.a.length : Int)) = true := by simp; exact hk
    have hka : i < o.a.length := hk
    have hixA := fun W => Rdv.ix h.a el22 hka .i64 W
    have hcA := Rd.cell h'.a hka
    have hav : -127 ≤ gi o.a i ∧ gi o.a i ≤ 127 := ho.2.2.2.2.2.2 _ (gi_mem o.a i hka)
    have ex : o.x i = gi o.s i + gi o.a i := by unfold Ob.x; rw [if_pos hk]
    rw [ex] at q1 hx ⊢
    have w5 : IntKind.i64.wrap ((gi o.s i + gi o.a i) * (1 - 2 * (b.bt : Int))) = (gi o.s i + gi o.a i) * (1 - 2 * (b.bt : Int)) := IntWalk.i64_in _ (by omega)
    have w7 : IntKind.i64.wrap ((gi o.s i + gi o.a i) * (1 - 2 * (b.bt : Int)) + gi o.p i * (1 - 2 * (b.pr : Int))) = (gi o.s i + gi o.a i) * (1 - 2 * (b.bt : Int)) + gi o.p i * (1 - 2 * (b.pr : Int)) := IntWalk.i64_in _ (by omega)
    clear h h' ho ex
    generalize gi o.s i = sv at *
    generalize gi o.a i = av at *
    generalize gi o.p i = pv at *
    go_enter Try.func43, Try.ntmps43
    go_wp2
    go_quiet (fail)
    go_wp2
    go_ret
    exact ⟨rfl, ((Below.refl _ w).alloc (Nat.le_refl _) _).trans (Qt.below ⟨_, rfl⟩ _)⟩
  · have hd : decide ((i : Int) < (o.a.length : Int)) = false := by
      have hk' : ¬ i < o.a.length := hk
      simp; omega
    have ex : o.x i = gi o.s i := by unfold Ob.x; rw [if_neg hk]
    rw [ex] at q1 hx ⊢
    have w5 : IntKind.i64.wrap (gi o.s i * (1 - 2 * (b.bt : Int))) = gi o.s i * (1 - 2 * (b.bt : Int)) := IntWalk.i64_in _ (by omega)
    have w7 : IntKind.i64.wrap (gi o.s i * (1 - 2 * (b.bt : Int)) + gi o.p i * (1 - 2 * (b.pr : Int))) = gi o.s i * (1 - 2 * (b.bt : Int)) + gi o.p i * (1 - 2 * (b.pr : Int)) := IntWalk.i64_in _ (by omega)
    clear h h' ho ex
    generalize gi o.s i = sv at *
    generalize gi o.p i = pv at *
    go_enter Try.func43, Try.ntmps43
    go_wp2
    go_quiet (fail)
    go_wp2
    go_ret
    exact ⟨rfl, ((Below.refl _ w).alloc (Nat.le_refl _) _).trans (Qt.below ⟨_, rfl⟩ _)⟩
/-- the bits of a codeword that a step takes: inputs, parities -/
def inW (bs : List Bool) : List Bool := bs ++ [tu (fin bs) 0, tu (fin bs) 1, tu (fin bs) 2]
def outW (bs : List Bool) : List Bool := parL s0 bs ++ [tz (fin bs) 0, tz (fin bs) 1, tz (fin bs) 2]
def bq (b : Bool) : Nat := if b then 1 else 0
def brW (bs : List Bool) (i : Nat) : Br := ⟨0, bq ((inW bs).getD i false), bq ((outW bs).getD i false), 0⟩
/-- the metric of input bits, up to a step -/
def Ob.mt (o : Ob) (bs : List Bool) : Nat → Int
  | 0 => 0
  | i + 1 => o.mt bs i + o.term i (brW bs i)
theorem bq_lt (b : Bool) : bq b < 2 := by cases b <;> decide
theorem bq_ib (b : Bool) : (bq b : Int) = ib b := by cases b <;> rfl
theorem term2_bd {o : Ob} (h : o.ok) (i : Nat) (hi : i < o.s.length) (b : Br) (hb : b.bt < 2 ∧ b.pr < 2) : -381 ≤ o.term i b ∧ o.term i b ≤ 381 := by
  have h1 := o.x_bd h i hi
  have h2 := o.p_bd h i hi
  unfold Ob.term
  rcases mul_sgn (o.x i) b.bt hb.1 with e1 | e1 <;> rcases mul_sgn (gi o.p i) b.pr hb.2 with e2 | e2 <;> rw [e1, e2] <;> omega
theorem mt_bd {o : Ob} (h : o.ok) (bs : List Bool) : ∀ i, i ≤ o.s.length → -(381 * (i : Int)) ≤ o.mt bs i ∧ o.mt bs i ≤ 381 * (i : Int)
  | 0, _ => by simp [Ob.mt]
  | i + 1, hi => by
    have ih := mt_bd h bs i (by omega)
    have ht := term2_bd h i (by omega) (brW bs i) ⟨bq_lt _, bq_lt _⟩
    show -(381 * ((i + 1 : Nat) : Int)) ≤ o.mt bs i + o.term i (brW bs i) ∧ o.mt bs i + o.term i (brW bs i) ≤ 381 * ((i + 1 : Nat) : Int)
    omega
theorem inW_len (bs : List Bool) : (inW bs).length = bs.length + 3 := by simp [inW]
theorem outW_len (bs : List Bool) : (outW bs).length = bs.length + 3 := by simp [outW, parL_len]
theorem wordC_in (bs : List Bool) : (wordC bs).take bs.length ++ ((wordC bs).take (2 * bs.length + 3)).drop (2 * bs.length) = inW bs := by
  have hp := parL_len bs s0
  have e1 : wordC bs = (bs ++ parL s0 bs) ++ ([tu (fin bs) 0, tu (fin bs) 1, tu (fin bs) 2] ++ [tz (fin bs) 0, tz (fin bs) 1, tz (fin bs) 2]) := by unfold wordC; rw [List.append_assoc (bs ++ parL s0 bs)]
  rw [List.drop_take, e1, List.drop_left' (by rw [List.length_append, hp]; omega), show 2 * bs.length + 3 - 2 * bs.length = 3 from by omega, List.append_assoc bs, List.take_left' rfl]
  rfl
theorem wordC_out (bs : List Bool) : ((wordC bs).take (2 * bs.length)).drop bs.length ++ (wordC bs).drop (2 * bs.length + 3) = outW bs := by
  have hp := parL_len bs s0
  have e1 : wordC bs = bs ++ (parL s0 bs ++ ([tu (fin bs) 0, tu (fin bs) 1, tu (fin bs) 2] ++ [tz (fin bs) 0, tz (fin bs) 1, tz (fin bs) 2])) := by unfold wordC; simp only [List.append_assoc]
  have e2 : wordC bs = ((bs ++ parL s0 bs) ++ [tu (fin bs) 0, tu (fin bs) 1, tu (fin bs) 2]) ++ [tz (fin bs) 0, tz (fin bs) 1, tz (fin bs) 2] := rfl
  rw [List.drop_take]
  conv => lhs; arg 2; rw [e2]
  rw [List.drop_left' (by simp [hp]; omega), e1, List.drop_left' rfl, show 2 * bs.length - bs.length = bs.length from by omega, List.take_left' hp]
  rfl
theorem Rdv.sllhm {P : Program} {w : World} {A : Option Addr} {n c : Nat} {vs : List Value} (h : Rdv w A n c vs) {t e : TypeId} {z : Value} {bytes : Nat} (E : El P t e z bytes) (kl kh km : IntKind) {l m : Nat} (hl : l ≤ m) (hm : m ≤ c) (W : World) :
    (Instr.sliceAt t (.slice A n c) (some (.int kl (l : Int))) (some (.int kh (m : Int))) (some (.int km (m : Int)))).run P W = .ok (.slice (cut A m l) (m - l) (m - l)) W := by
  have e1 : P.underlying t = some (.slice (P.elem t)) := by rw [E.u]; simp [Program.elem, E.u]
  have e2 : P.elem t = e := by simp [Program.elem, E.u]
  rw [run_sliceAt_slice W t _ _ _ _ e1, run_slice_lhm W t A n c e1 kl kh km l m m (by omega) (by omega) (by omega) (by omega), e2, E.s]
  simp only [Result.andThen_ok, Int.toNat_natCast, sliced, Nat.mul_one, cut]
set_option maxRecDepth 100000 in
set_option maxHeartbeats 600000 in
theorem metric_len (S P A B : Option Addr) (cs cp ca n cb : Nat) (o : Ob) (xs : List Int) (w : World) (h : In3 w o S P A cs cp ca) (hb : Rd .u8 w B n cb xs) (hl : n ≠ o.a.length) :
    Calls Try.prog 24 #[.slice S o.s.length cs, .slice P o.p.length cp, .slice A o.a.length ca, .slice B n cb] w fun e w' => e = .returned (.tuple #[.int .i64 0, .int .i64 2]) ∧ Below w.heap.size w w' := by
  have e1 : ((n : Int) != (o.a.length : Int)) = true := bne_t (by omega)
  clear h hb hl
  go_enter Try.func24, Try.ntmps24
  go_wp2
  go_ret2
  exact ⟨rfl, Below.refl _ w⟩
set_option maxRecDepth 100000 in
set_option maxHeartbeats 600000 in
theorem metric_err (S P A B : Option Addr) (cs cp ca n cb : Nat) (o : Ob) (xs : List Int) (w : World) (h : In3 w o S P A cs cp ca) (hb : Rd .u8 w B n cb xs) (hl : n = o.a.length) (ho : ¬ o.ok) :
    Calls Try.prog 24 #[.slice S o.s.length cs, .slice P o.p.length cp, .slice A o.a.length ca, .slice B n cb] w fun e w' => e = .returned (.tuple #[.int .i64 0, .int .i64 o.err]) ∧ Below w.heap.size w w' := by
  have e1 : ((n : Int) != (o.a.length : Int)) = false := bne_f (by omega)
  have hE := Ob.err_cases ho
  have HO := Lib.hid (observed_bad S P A cs cp ca o w h ho)
  generalize o.err = E at *
  have hne : (E != 0) = true := by simp; omega
  clear h hb hl ho hE
  go_enter Try.func24, Try.ntmps24
  go_wp2_with fail
  refine HO.out.mono ?_
  rintro e w1 ⟨rfl, hB1⟩
  have h62 : Blk (w1.alloc (.cells #[.pointer none, .slice none 0 0] 62)) w1.heap.size 62 zero62 := Blk.new w1 zero62 62 rfl
  have HB1 := Lib.hid hB1
  clear hB1
  unfold zero62
  go_wp2_with (refine strow (cs := zero62) rfl 62 (.tmp 11) (.tmp 29) rfl rfl rfl h62 rfl (by rw [info62]; rfl) zero62_one ?_; intro W2 h1 h2; have H2 := Lib.hid h2; clear h1 h2 h62)
  go_ret2
  exact ⟨rfl, (HB1.out.alloc HB1.out.size _).grown H2.out (by have := HB1.out.size; simp; omega) (fun k hk => by cases hk; exact HB1.out.size)⟩
set_option maxRecDepth 100000 in
set_option maxHeartbeats 600000 in
theorem metric_bit (S P A B : Option Addr) (cs cp ca n cb : Nat) (o : Ob) (xs : List Int) (w : World) (h : In3 w o S P A cs cp ca) (hb : Rd .u8 w B n cb xs) (hl : n = o.a.length) (ho : o.ok) (hv : ValidB xs = false) :
    Calls Try.prog 24 #[.slice S o.s.length cs, .slice P o.p.length cp, .slice A o.a.length ca, .slice B n cb] w fun e w' => e = .returned (.tuple #[.int .i64 0, .int .i64 3]) ∧ Below w.heap.size w w' := by
  have e1 : ((n : Int) != (o.a.length : Int)) = false := bne_f (by omega)
  have HO := Lib.hid (observed_ok S P A cs cp ca o w h ho)
  have HW := Lib.hid (fun W (h : Rd .u8 W B n cb xs) => word_bad B n cb xs W h hv)
  have HX := Lib.hid hb
  clear h hb hl ho hv
  go_enter Try.func24, Try.ntmps24
  go_wp2_with fail
  refine HO.out.mono ?_
  rintro e w1 ⟨bo, bb, rfl, hSW, hB1⟩
  have h62 : Blk (w1.alloc (.cells #[.pointer none, .slice none 0 0] 62)) w1.heap.size 62 zero62 := Blk.new w1 zero62 62 rfl
  have HB1 := Lib.hid hB1
  clear hB1 hSW
  unfold swV
  go_wp2_with (refine strow (cs := swC bo bb) rfl 62 (.tmp 11) (.tmp 29) rfl rfl rfl h62 rfl (by rw [info62]; rfl) (by simp [swC, Value.oneCell']) ?_; intro W2 h1 h2; have H2 := Lib.hid h2; clear h1 h2 h62)
  have hb2 : Below w.heap.size w W2 := (HB1.out.alloc HB1.out.size _).grown H2.out (by have := HB1.out.size; simp; omega) (fun k hk => by cases hk; exact HB1.out.size)
  refine (HW.out _ (Rdv.below HX.out hb2)).mono ?_
  rintro e w3 ⟨rfl, rfl⟩
  have HB2 := Lib.hid hb2
  clear hb2
  go_wp2
  go_ret2
  exact ⟨rfl, HB2.out⟩
def MetI (o : Ob) (bs : List Bool) (w0 : World) (v i : Value) (wr : World) : Prop := ∃ j : Nat, j ≤ o.s.length ∧ i = .int .i64 j ∧ v = .int .i64 (o.mt bs j) ∧ Below w0.heap.size w0 wr
set_option maxRecDepth 100000 in
set_option maxHeartbeats 2000000 in
theorem metric_ok (S P A B : Option Addr) (cs cp ca cb : Nat) (o : Ob) (bs : List Bool) (w : World) (h : In3 w o S P A cs cp ca) (hb : Rd .u8 w B o.a.length cb (bs.map ib)) (hl : bs.length = o.a.length) (ho : o.ok) :
    Calls Try.prog 24 #[.slice S o.s.length cs, .slice P o.p.length cp, .slice A o.a.length ca, .slice B o.a.length cb] w fun e w' => e = .returned (.tuple #[.int .i64 (o.mt bs o.s.length), .int .i64 0]) ∧ Below w.heap.size w w' := by
  have e1 : ((o.a.length : Int) != (o.a.length : Int)) = false := bne_f rfl
  have HO := Lib.hid ho
  have HOB := Lib.hid (observed_ok S P A cs cp ca o w h ho)
  have hn2 : o.a.length ≤ 6144 := ho.2.1
  have hn1 : 1 ≤ o.a.length := ho.1
  have HLS := Lib.hid ho.2.2.1
  have HX := Lib.hid hb
  have HL := Lib.hid hl
  clear h hb hl ho
  go_enter Try.func24, Try.ntmps24
  go_wp2_with fail
  refine HOB.out.mono ?_
  rintro e w1 ⟨bo, bb, rfl, hSW, hB1⟩
  have h62 : Blk (w1.alloc (.cells #[.pointer none, .slice none 0 0] 62)) w1.heap.size 62 zero62 := Blk.new w1 zero62 62 rfl
  have HB1 := Lib.hid hB1
  have HSW := Lib.hid hSW
  clear hB1 hSW
  unfold swV
  go_wp2_with (refine strow (cs := swC bo bb) rfl 62 (.tmp 11) (.tmp 29) rfl rfl rfl h62 rfl (by rw [info62]; rfl) (by simp [swC, Value.oneCell']) ?_; intro W2 h1 h2; have H1 := Lib.hid h1; have H2 := Lib.hid h2; clear h1 h2 h62)
  have hq0 : Below w1.heap.size w1 W2 := ((Below.refl _ w1).alloc (Nat.le_refl _) _).grown H2.out (by simp) (fun k hk => by cases hk; exact Nat.le_refl _)
  have HB2 := Lib.hid (HB1.out.trans (hq0.mono HB1.out.size))
  have HS2 := Lib.hid (HSW.out.below hq0)
  clear hq0 H2
  generalize w1.heap.size = b11 at *
  refine (word_any B o.a.length cb bs _ (Rdv.below HX.out HB2.out) (by omega)).mono ?_
  rintro e w3 ⟨B2, d, rfl, hW, hB3⟩
  have HW := Lib.hid (Own.rd hW)
  have HB3 := Lib.hid (HB2.out.trans (hB3.mono HB2.out.size))
  have HS3 := Lib.hid (HS2.out.below hB3)
  have H3 := Lib.hid (H1.out.below hB3)
  have hd : o.a.length + o.a.length + 3 + 3 ≤ d := (Ownv.rd hW).le
  clear hW hB3
  obtain ⟨X, hX⟩ : ∃ X, X = (wordC bs).map ib := ⟨_, rfl⟩
  rw [← hX] at HW
  have HXE := Lib.hid hX
  clear hX
  go_wp2_with fail
  have v1 : IntKind.i64.wrap (2 * (o.a.length : Int)) = 2 * (o.a.length : Int) := IntWalk.i64_in _ (by omega)
  have v2 : IntKind.i64.wrap (2 * (o.a.length : Int) + 3) = 2 * (o.a.length : Int) + 3 := IntWalk.i64_in _ (by omega)
  have sl1 := fun W => Rdv.slhm HW.out el26 .i64 .i64 (m := o.a.length) (by omega) W
  have sl2 : ∀ W, (Instr.sliceAt 26 (.slice B2 (o.a.length + o.a.length + 3 + 3) d) (some (.int .i64 (2 * (o.a.length : Int)))) (some (.int .i64 (2 * (o.a.length : Int) + 3))) none).run Try.prog W = .ok (.slice (cut B2 d (2 * o.a.length)) 3 (d - 2 * o.a.length)) W := fun W => by
    have h := Rdv.sl HW.out el26 .i64 .i64 (l := 2 * o.a.length) (m := 2 * o.a.length + 3) (by omega) (by omega) W
    rw [show 2 * o.a.length + 3 - 2 * o.a.length = 3 from by omega, show ((2 * o.a.length + 3 : Nat) : Int) = 2 * (o.a.length : Int) + 3 from by omega, show ((2 * o.a.length : Nat) : Int) = 2 * (o.a.length : Int) from by omega] at h
    exact h
  have HR1 : Hid (Rd .u8 w3 B2 o.a.length o.a.length (X.take o.a.length)) := Lib.hid (Rdv.capn (Rd.upto HW.out (by omega)))
  have HR2 : Hid (Rd .u8 w3 (cut B2 d (2 * o.a.length)) 3 (d - 2 * o.a.length) ((X.take (2 * o.a.length + 3)).drop (2 * o.a.length))) := Lib.hid (by
    have h := Rd.cut_ HW.out (l := 2 * o.a.length) (m := 2 * o.a.length + 3) (by omega) (by omega)
    rw [show 2 * o.a.length + 3 - 2 * o.a.length = 3 from by omega] at h
    exact h)
  refine P_start (fun _ => True) 11 14 #[false, false, false, false, false, false, false, false, false, false, false, false, false, false] (by kernel_rfl) (by kernel_rfl) (by kernel_rfl) ?_
  refine P_takeW 0 42 (.slice B2 (o.a.length + o.a.length + 3 + 3) d) #[true, false, false, false, false, false, false, false, false, false, false, false, false, false] rfl rfl (by kernel_rfl) (by kernel_rfl) (by kernel_rfl) (by kernel_rfl) (by decide) (fun _ _ _ h => h) (Or.inl ⟨by rfl, fun W hS => by go_simp⟩) trivial ?_
  simp only [List.setIfInBounds_toArray, List.set_cons_zero, List.set_cons_succ]
  refine P_takeW 1 43 (.int .i64 (o.a.length : Int)) #[true, true, false, false, false, false, false, false, false, false, false, false, false, false] rfl rfl (by kernel_rfl) (by kernel_rfl) (by kernel_rfl) (by kernel_rfl) (by decide) (fun _ _ _ h => h) (Or.inl ⟨by rfl, fun W hS => by go_simp⟩) trivial ?_
  simp only [List.setIfInBounds_toArray, List.set_cons_zero, List.set_cons_succ]
  refine P_takeW 2 44 (.int .i64 (o.a.length : Int)) #[true, true, true, false, false, false, false, false, false, false, false, false, false, false] rfl rfl (by kernel_rfl) (by kernel_rfl) (by kernel_rfl) (by kernel_rfl) (by decide) (fun _ _ _ h => h) (Or.inl ⟨by rfl, fun W hS => by go_simp⟩) trivial ?_
  simp only [List.setIfInBounds_toArray, List.set_cons_zero, List.set_cons_succ]
  refine P_takeW 3 45 (.slice B2 o.a.length o.a.length) #[true, true, true, true, false, false, false, false, false, false, false, false, false, false] rfl rfl (by kernel_rfl) (by kernel_rfl) (by kernel_rfl) (by kernel_rfl) (by decide) (fun _ _ _ h => h) (Or.inl ⟨by rfl, fun W hS => by go_simp⟩) trivial ?_
  simp only [List.setIfInBounds_toArray, List.set_cons_zero, List.set_cons_succ]
  refine P_takeW 4 46 (.slice B2 (o.a.length + o.a.length + 3 + 3) d) #[true, true, true, true, true, false, false, false, false, false, false, false, false, false] rfl rfl (by kernel_rfl) (by kernel_rfl) (by kernel_rfl) (by kernel_rfl) (by decide) (fun _ _ _ h => h) (Or.inl ⟨by rfl, fun W hS => by go_simp⟩) trivial ?_
  simp only [List.setIfInBounds_toArray, List.set_cons_zero, List.set_cons_succ]
  refine P_takeW 5 47 (.int .i64 (o.a.length : Int)) #[true, true, true, true, true, true, false, false, false, false, false, false, false, false] rfl rfl (by kernel_rfl) (by kernel_rfl) (by kernel_rfl) (by kernel_rfl) (by decide) (fun _ _ _ h => h) (Or.inl ⟨by rfl, fun W hS => by go_simp⟩) trivial ?_
  simp only [List.setIfInBounds_toArray, List.set_cons_zero, List.set_cons_succ]
  refine P_takeW 6 48 (.int .i64 (2 * (o.a.length : Int))) #[true, true, true, true, true, true, true, false, false, false, false, false, false, false] rfl rfl (by kernel_rfl) (by kernel_rfl) (by kernel_rfl) (by kernel_rfl) (by decide) (fun _ _ _ h => h) (Or.inl ⟨by rfl, fun W hS => by go_simp⟩) trivial ?_
  simp only [List.setIfInBounds_toArray, List.set_cons_zero, List.set_cons_succ]
  refine P_takeW 7 49 (.int .i64 (o.a.length : Int)) #[true, true, true, true, true, true, true, true, false, false, false, false, false, false] rfl rfl (by kernel_rfl) (by kernel_rfl) (by kernel_rfl) (by kernel_rfl) (by decide) (fun _ _ _ h => h) (Or.inl ⟨by rfl, fun W hS => by go_simp⟩) trivial ?_
  simp only [List.setIfInBounds_toArray, List.set_cons_zero, List.set_cons_succ]
  refine P_takeW 8 50 (.int .i64 (2 * (o.a.length : Int))) #[true, true, true, true, true, true, true, true, true, false, false, false, false, false] rfl rfl (by kernel_rfl) (by kernel_rfl) (by kernel_rfl) (by kernel_rfl) (by decide) (fun _ _ _ h => h) (Or.inl ⟨by rfl, fun W hS => by go_simp⟩) trivial ?_
  simp only [List.setIfInBounds_toArray, List.set_cons_zero, List.set_cons_succ]
  refine P_takeW 9 51 (.int .i64 (2 * (o.a.length : Int) + 3)) #[true, true, true, true, true, true, true, true, true, true, false, false, false, false] rfl rfl (by kernel_rfl) (by kernel_rfl) (by kernel_rfl) (by kernel_rfl) (by decide) (fun _ _ _ h => h) (Or.inl ⟨by rfl, fun W hS => by go_simp⟩) trivial ?_
  simp only [List.setIfInBounds_toArray, List.set_cons_zero, List.set_cons_succ]
  refine P_takeW 10 52 (.slice (cut B2 d (2 * o.a.length)) 3 (d - 2 * o.a.length)) #[true, true, true, true, true, true, true, true, true, true, true, false, false, false] rfl rfl (by kernel_rfl) (by kernel_rfl) (by kernel_rfl) (by kernel_rfl) (by decide) (fun _ _ _ h => h) (Or.inl ⟨by rfl, fun W hS => by go_simp⟩) trivial ?_
  simp only [List.setIfInBounds_toArray, List.set_cons_zero, List.set_cons_succ]
  refine P_one 11 #[true, true, true, true, true, true, true, true, true, true, true, true, false, false] rfl (by kernel_rfl) (by kernel_rfl) rfl (by kernel_rfl) (fun K hK => ?_)
  go_simp
  have hrow : Rdv (w3.drew.alloc (.cells #[.slice B2 o.a.length o.a.length, .slice (cut B2 d (2 * o.a.length)) 3 (d - 2 * o.a.length)] 26)) (some ⟨w3.drew.heap.size, 0, none⟩) 2 2 (([⟨B2, o.a.length, o.a.length, X.take o.a.length⟩, ⟨(cut B2 d (2 * o.a.length)), 3, (d - 2 * o.a.length), (X.take (2 * o.a.length + 3)).drop (2 * o.a.length)⟩] : List Sv).map Sv.v) := (Ownv.lit w3.drew #[.slice B2 o.a.length o.a.length, .slice (cut B2 d (2 * o.a.length)) 3 (d - 2 * o.a.length)] 26 rfl (Nat.le_refl _) (by show 2 ≤ maxLen; unfold maxLen; omega)).rd
  have hbw : Below w3.heap.size w3 (w3.drew.alloc (.cells #[.slice B2 o.a.length o.a.length, .slice (cut B2 d (2 * o.a.length)) 3 (d - 2 * o.a.length)] 26)) := (Below.refl _ w3).drew.alloc (Nat.le_refl _) _
  have hall : ∀ s ∈ ([⟨B2, o.a.length, o.a.length, X.take o.a.length⟩, ⟨(cut B2 d (2 * o.a.length)), 3, (d - 2 * o.a.length), (X.take (2 * o.a.length + 3)).drop (2 * o.a.length)⟩] : List Sv), Rd .u8 (w3.drew.alloc (.cells #[.slice B2 o.a.length o.a.length, .slice (cut B2 d (2 * o.a.length)) 3 (d - 2 * o.a.length)] 26)) s.A s.n s.c s.xs := by
    intro s hs
    simp only [List.mem_cons, List.not_mem_nil, or_false] at hs
    rcases hs with rfl | rfl
    · exact Rdv.below HR1.out hbw
    · exact Rdv.below HR2.out hbw
  have HJ := Lib.hid (concat_any _ 2 2 _ _ hrow hall (by simp [tot]; omega))
  have HBW := Lib.hid hbw
  clear hrow hall hbw v1 v2 sl1 sl2
  refine hK _ _ ?_
  clear hK K
  refine P_one 12 #[true, true, true, true, true, true, true, true, true, true, true, true, true, false] rfl (by kernel_rfl) (by kernel_rfl) rfl (by kernel_rfl) (fun K hK => ?_)
  go_simp
  refine HJ.out.mono ?_
  rintro e w4 ⟨C1, k1, rfl, hF1, hF2⟩
  have ht : tot ([⟨B2, o.a.length, o.a.length, X.take o.a.length⟩, ⟨(cut B2 d (2 * o.a.length)), 3, (d - 2 * o.a.length), (X.take (2 * o.a.length + 3)).drop (2 * o.a.length)⟩] : List Sv) 2 = o.a.length + 3 := by simp [tot]
  rw [ht] at hF1 ⊢
  have hfl : flat ([⟨B2, o.a.length, o.a.length, X.take o.a.length⟩, ⟨(cut B2 d (2 * o.a.length)), 3, (d - 2 * o.a.length), (X.take (2 * o.a.length + 3)).drop (2 * o.a.length)⟩] : List Sv) 2 = (inW bs).map ib := by
    simp only [flat, List.take_succ_cons, List.take_zero, List.flatMap_cons, List.flatMap_nil, List.append_nil]
    rw [HXE.out, ← HL.out, ← List.map_take, ← List.map_take, ← List.map_drop, ← List.map_append, wordC_in]
  rw [hfl] at hF1
  have HI := Lib.hid (Own.rd hF1)
  have hbz := HBW.out.trans (hF2.mono HBW.out.size)
  have HW4 := Lib.hid (Rdv.below HW.out hbz)
  have HB4 := Lib.hid (HB3.out.trans (hbz.mono HB3.out.size))
  have HS4 := Lib.hid (HS3.out.below hbz)
  have H4 := Lib.hid (H3.out.below hbz)
  clear HW HR1 HR2 HS3 H3
  clear hF1 hF2 ht hfl hbz HJ HBW
  refine hK _ _ ?_
  clear hK K
  refine P_one 13 #[true, true, true, true, true, true, true, true, true, true, true, true, true, true] rfl (by kernel_rfl) (by kernel_rfl) rfl (by kernel_rfl) (fun K hK => ?_)
  go_simp
  refine hK _ _ ?_
  clear hK K
  refine P_done (by kernel_rfl) ?_ _
  go_wp2_with fail
  have v1 : IntKind.i64.wrap (2 * (o.a.length : Int)) = 2 * (o.a.length : Int) := IntWalk.i64_in _ (by omega)
  have v2 : IntKind.i64.wrap (2 * (o.a.length : Int) + 3) = 2 * (o.a.length : Int) + 3 := IntWalk.i64_in _ (by omega)
  have sl1 : ∀ W, (Instr.sliceAt 26 (.slice B2 (o.a.length + o.a.length + 3 + 3) d) (some (.int .i64 (o.a.length : Int))) (some (.int .i64 (2 * (o.a.length : Int)))) (some (.int .i64 (2 * (o.a.length : Int))))).run Try.prog W = .ok (.slice (cut B2 (2 * o.a.length) o.a.length) o.a.length o.a.length) W := fun W => by
    have h := Rdv.sllhm HW4.out el26 .i64 .i64 .i64 (l := o.a.length) (m := 2 * o.a.length) (by omega) (by omega) W
    rw [show 2 * o.a.length - o.a.length = o.a.length from by omega, show ((2 * o.a.length : Nat) : Int) = 2 * (o.a.length : Int) from by omega] at h
    exact h
  have sl2 : ∀ W, (Instr.sliceAt 26 (.slice B2 (o.a.length + o.a.length + 3 + 3) d) (some (.int .i64 (2 * (o.a.length : Int) + 3))) none none).run Try.prog W = .ok (.slice (cut B2 d (2 * o.a.length + 3)) 3 (d - (2 * o.a.length + 3))) W := fun W => by
    have h := Rdv.sll HW4.out el26 .i64 (l := 2 * o.a.length + 3) (by omega) W
    rw [show o.a.length + o.a.length + 3 + 3 - (2 * o.a.length + 3) = 3 from by omega, show ((2 * o.a.length + 3 : Nat) : Int) = 2 * (o.a.length : Int) + 3 from by omega] at h
    exact h
  have HR1 : Hid (Rd .u8 w4 (cut B2 (2 * o.a.length) o.a.length) o.a.length o.a.length ((X.take (2 * o.a.length)).drop o.a.length)) := Lib.hid (by
    have h := Rd.cut_ (Rdv.capn (Rd.upto HW4.out (m := 2 * o.a.length) (by omega))) (l := o.a.length) (m := 2 * o.a.length) (by omega) (by omega)
    rw [show 2 * o.a.length - o.a.length = o.a.length from by omega, List.take_take, Nat.min_self] at h
    exact h)
  have HR2 : Hid (Rd .u8 w4 (cut B2 d (2 * o.a.length + 3)) 3 (d - (2 * o.a.length + 3)) (X.drop (2 * o.a.length + 3))) := Lib.hid (by
    have h := Rd.cut_ HW4.out (l := 2 * o.a.length + 3) (m := o.a.length + o.a.length + 3 + 3) (by omega) (by omega)
    rw [show o.a.length + o.a.length + 3 + 3 - (2 * o.a.length + 3) = 3 from by omega, List.take_of_length_le (by rw [Rd.len HW4.out]; omega)] at h
    exact h)
  refine P_start (fun _ => True) 12 15 #[false, false, false, false, false, false, false, false, false, false, false, false, false, false, false] (by kernel_rfl) (by kernel_rfl) (by kernel_rfl) ?_
  refine P_takeW 0 55 (.slice B2 (o.a.length + o.a.length + 3 + 3) d) #[true, false, false, false, false, false, false, false, false, false, false, false, false, false, false] rfl rfl (by kernel_rfl) (by kernel_rfl) (by kernel_rfl) (by kernel_rfl) (by decide) (fun _ _ _ h => h) (Or.inl ⟨by rfl, fun W hS => by go_simp⟩) trivial ?_
  simp only [List.setIfInBounds_toArray, List.set_cons_zero, List.set_cons_succ]
  refine P_takeW 1 56 (.int .i64 (o.a.length : Int)) #[true, true, false, false, false, false, false, false, false, false, false, false, false, false, false] rfl rfl (by kernel_rfl) (by kernel_rfl) (by kernel_rfl) (by kernel_rfl) (by decide) (fun _ _ _ h => h) (Or.inl ⟨by rfl, fun W hS => by go_simp⟩) trivial ?_
  simp only [List.setIfInBounds_toArray, List.set_cons_zero, List.set_cons_succ]
  refine P_takeW 2 57 (.int .i64 (o.a.length : Int)) #[true, true, true, false, false, false, false, false, false, false, false, false, false, false, false] rfl rfl (by kernel_rfl) (by kernel_rfl) (by kernel_rfl) (by kernel_rfl) (by decide) (fun _ _ _ h => h) (Or.inl ⟨by rfl, fun W hS => by go_simp⟩) trivial ?_
  simp only [List.setIfInBounds_toArray, List.set_cons_zero, List.set_cons_succ]
  refine P_takeW 3 58 (.int .i64 (2 * (o.a.length : Int))) #[true, true, true, true, false, false, false, false, false, false, false, false, false, false, false] rfl rfl (by kernel_rfl) (by kernel_rfl) (by kernel_rfl) (by kernel_rfl) (by decide) (fun _ _ _ h => h) (Or.inl ⟨by rfl, fun W hS => by go_simp⟩) trivial ?_
  simp only [List.setIfInBounds_toArray, List.set_cons_zero, List.set_cons_succ]
  refine P_takeW 4 59 (.int .i64 (o.a.length : Int)) #[true, true, true, true, true, false, false, false, false, false, false, false, false, false, false] rfl rfl (by kernel_rfl) (by kernel_rfl) (by kernel_rfl) (by kernel_rfl) (by decide) (fun _ _ _ h => h) (Or.inl ⟨by rfl, fun W hS => by go_simp⟩) trivial ?_
  simp only [List.setIfInBounds_toArray, List.set_cons_zero, List.set_cons_succ]
  refine P_takeW 5 60 (.int .i64 (2 * (o.a.length : Int))) #[true, true, true, true, true, true, false, false, false, false, false, false, false, false, false] rfl rfl (by kernel_rfl) (by kernel_rfl) (by kernel_rfl) (by kernel_rfl) (by decide) (fun _ _ _ h => h) (Or.inl ⟨by rfl, fun W hS => by go_simp⟩) trivial ?_
  simp only [List.setIfInBounds_toArray, List.set_cons_zero, List.set_cons_succ]
  refine P_takeW 6 61 (.slice (cut B2 (2 * o.a.length) o.a.length) o.a.length o.a.length) #[true, true, true, true, true, true, true, false, false, false, false, false, false, false, false] rfl rfl (by kernel_rfl) (by kernel_rfl) (by kernel_rfl) (by kernel_rfl) (by decide) (fun _ _ _ h => h) (Or.inl ⟨by rfl, fun W hS => by go_simp⟩) trivial ?_
  simp only [List.setIfInBounds_toArray, List.set_cons_zero, List.set_cons_succ]
  refine P_takeW 7 62 (.slice B2 (o.a.length + o.a.length + 3 + 3) d) #[true, true, true, true, true, true, true, true, false, false, false, false, false, false, false] rfl rfl (by kernel_rfl) (by kernel_rfl) (by kernel_rfl) (by kernel_rfl) (by decide) (fun _ _ _ h => h) (Or.inl ⟨by rfl, fun W hS => by go_simp⟩) trivial ?_
  simp only [List.setIfInBounds_toArray, List.set_cons_zero, List.set_cons_succ]
  refine P_takeW 8 63 (.int .i64 (o.a.length : Int)) #[true, true, true, true, true, true, true, true, true, false, false, false, false, false, false] rfl rfl (by kernel_rfl) (by kernel_rfl) (by kernel_rfl) (by kernel_rfl) (by decide) (fun _ _ _ h => h) (Or.inl ⟨by rfl, fun W hS => by go_simp⟩) trivial ?_
  simp only [List.setIfInBounds_toArray, List.set_cons_zero, List.set_cons_succ]
  refine P_takeW 9 64 (.int .i64 (2 * (o.a.length : Int))) #[true, true, true, true, true, true, true, true, true, true, false, false, false, false, false] rfl rfl (by kernel_rfl) (by kernel_rfl) (by kernel_rfl) (by kernel_rfl) (by decide) (fun _ _ _ h => h) (Or.inl ⟨by rfl, fun W hS => by go_simp⟩) trivial ?_
  simp only [List.setIfInBounds_toArray, List.set_cons_zero, List.set_cons_succ]
  refine P_takeW 10 65 (.int .i64 (2 * (o.a.length : Int) + 3)) #[true, true, true, true, true, true, true, true, true, true, true, false, false, false, false] rfl rfl (by kernel_rfl) (by kernel_rfl) (by kernel_rfl) (by kernel_rfl) (by decide) (fun _ _ _ h => h) (Or.inl ⟨by rfl, fun W hS => by go_simp⟩) trivial ?_
  simp only [List.setIfInBounds_toArray, List.set_cons_zero, List.set_cons_succ]
  refine P_takeW 11 66 (.slice (cut B2 d (2 * o.a.length + 3)) 3 (d - (2 * o.a.length + 3))) #[true, true, true, true, true, true, true, true, true, true, true, true, false, false, false] rfl rfl (by kernel_rfl) (by kernel_rfl) (by kernel_rfl) (by kernel_rfl) (by decide) (fun _ _ _ h => h) (Or.inl ⟨by rfl, fun W hS => by go_simp⟩) trivial ?_
  simp only [List.setIfInBounds_toArray, List.set_cons_zero, List.set_cons_succ]
  refine P_one 12 #[true, true, true, true, true, true, true, true, true, true, true, true, true, false, false] rfl (by kernel_rfl) (by kernel_rfl) rfl (by kernel_rfl) (fun K hK => ?_)
  go_simp
  have hrow : Rdv (w4.drew.alloc (.cells #[.slice (cut B2 (2 * o.a.length) o.a.length) o.a.length o.a.length, .slice (cut B2 d (2 * o.a.length + 3)) 3 (d - (2 * o.a.length + 3))] 26)) (some ⟨w4.drew.heap.size, 0, none⟩) 2 2 (([⟨(cut B2 (2 * o.a.length) o.a.length), o.a.length, o.a.length, (X.take (2 * o.a.length)).drop o.a.length⟩, ⟨(cut B2 d (2 * o.a.length + 3)), 3, (d - (2 * o.a.length + 3)), X.drop (2 * o.a.length + 3)⟩] : List Sv).map Sv.v) := (Ownv.lit w4.drew #[.slice (cut B2 (2 * o.a.length) o.a.length) o.a.length o.a.length, .slice (cut B2 d (2 * o.a.length + 3)) 3 (d - (2 * o.a.length + 3))] 26 rfl (Nat.le_refl _) (by show 2 ≤ maxLen; unfold maxLen; omega)).rd
  have hbw : Below w4.heap.size w4 (w4.drew.alloc (.cells #[.slice (cut B2 (2 * o.a.length) o.a.length) o.a.length o.a.length, .slice (cut B2 d (2 * o.a.length + 3)) 3 (d - (2 * o.a.length + 3))] 26)) := (Below.refl _ w4).drew.alloc (Nat.le_refl _) _
  have hall : ∀ s ∈ ([⟨(cut B2 (2 * o.a.length) o.a.length), o.a.length, o.a.length, (X.take (2 * o.a.length)).drop o.a.length⟩, ⟨(cut B2 d (2 * o.a.length + 3)), 3, (d - (2 * o.a.length + 3)), X.drop (2 * o.a.length + 3)⟩] : List Sv), Rd .u8 (w4.drew.alloc (.cells #[.slice (cut B2 (2 * o.a.length) o.a.length) o.a.length o.a.length, .slice (cut B2 d (2 * o.a.length + 3)) 3 (d - (2 * o.a.length + 3))] 26)) s.A s.n s.c s.xs := by
    intro s hs
    simp only [List.mem_cons, List.not_mem_nil, or_false] at hs
    rcases hs with rfl | rfl
    · exact Rdv.below HR1.out hbw
    · exact Rdv.below HR2.out hbw
  have HJ := Lib.hid (concat_any _ 2 2 _ _ hrow hall (by simp [tot]; omega))
  have HBW := Lib.hid hbw
  clear hrow hall hbw v1 v2 sl1 sl2
  refine hK _ _ ?_
  clear hK K
  refine P_one 13 #[true, true, true, true, true, true, true, true, true, true, true, true, true, true, false] rfl (by kernel_rfl) (by kernel_rfl) rfl (by kernel_rfl) (fun K hK => ?_)
  go_simp
  refine HJ.out.mono ?_
  rintro e w5 ⟨C2, k2, rfl, hF1, hF2⟩
  have ht : tot ([⟨(cut B2 (2 * o.a.length) o.a.length), o.a.length, o.a.length, (X.take (2 * o.a.length)).drop o.a.length⟩, ⟨(cut B2 d (2 * o.a.length + 3)), 3, (d - (2 * o.a.length + 3)), X.drop (2 * o.a.length + 3)⟩] : List Sv) 2 = o.a.length + 3 := by simp [tot]
  rw [ht] at hF1 ⊢
  have hfl : flat ([⟨(cut B2 (2 * o.a.length) o.a.length), o.a.length, o.a.length, (X.take (2 * o.a.length)).drop o.a.length⟩, ⟨(cut B2 d (2 * o.a.length + 3)), 3, (d - (2 * o.a.length + 3)), X.drop (2 * o.a.length + 3)⟩] : List Sv) 2 = (outW bs).map ib := by
    simp only [flat, List.take_succ_cons, List.take_zero, List.flatMap_cons, List.flatMap_nil, List.append_nil]
    rw [HXE.out, ← HL.out, ← List.map_take, ← List.map_drop, ← List.map_drop, ← List.map_append, wordC_out]
  rw [hfl] at hF1
  have HJ2 := Lib.hid (Own.rd hF1)
  have hbz := HBW.out.trans (hF2.mono HBW.out.size)
  have HI5 := Lib.hid (Rdv.below HI.out hbz)
  have HB5 := Lib.hid (HB4.out.trans (hbz.mono HB4.out.size))
  have HS5 := Lib.hid (HS4.out.below hbz)
  have H5 := Lib.hid (H4.out.below hbz)
  clear HW4 HR1 HR2 HS4 H4 HI
  clear hF1 hF2 ht hfl hbz HJ HBW
  refine hK _ _ ?_
  clear hK K
  refine P_one 14 #[true, true, true, true, true, true, true, true, true, true, true, true, true, true, true] rfl (by kernel_rfl) (by kernel_rfl) rfl (by kernel_rfl) (fun K hK => ?_)
  go_simp
  refine hK _ _ ?_
  clear hK K
  refine P_done (by kernel_rfl) ?_ _
  have q0 := H5.out.cell (j := 0) (v := .pointer (some ⟨bo, 0, none⟩)) rfl
  have HST := Lib.hid (fun W (h : SwAt W bo bb o S P A cs cp ca) => steps_any bo o S P A cs cp ca W h.o)
  have hn3 : o.s.length = o.a.length + 3 := HLS.out
  have HN3 := Lib.hid hn3
  have hsl : o.s.length ≤ 6147 := by omega
  clear hn3
  go_wp2_with (go_at_call 30; refine (HST.out _ HS5.out).mono ?_; rintro e w6 ⟨rfl, rfl⟩)
  clear q0
  go_loopw [16, 72] (fun v i wr => ∃ j : Nat, j ≤ o.s.length ∧ i = .int .i64 j ∧ v = .int .i64 (o.mt bs j) ∧ Below w5.heap.size w5 wr) (fun _ i _ => o.s.length - (intOf i).toNat)
  case atStart => exact ⟨0, by omega, rfl, rfl, Below.refl _ w5⟩
  case round =>
    obtain ⟨j, hj, rfl, rfl, hBr⟩ := hrel
    by_cases hlt : j < o.s.length
    · have hja : j < o.a.length + 3 := by have := HN3.out; omega
      have HIr := Lib.hid (Rdv.below HI5.out hBr)
      have HJr := Lib.hid (Rdv.below HJ2.out hBr)
      have HSr := Lib.hid (HS5.out.below hBr)
      have H5r := Lib.hid (H5.out.below hBr)
      have HBr := Lib.hid hBr
      have hil : j < (inW bs).length := by rw [inW_len, HL.out]; exact hja
      have hol : j < (outW bs).length := by rw [outW_len, HL.out]; exact hja
      have hmb := mt_bd HO.out bs j hj
      have HTM := Lib.hid (fun W (h : SwAt W bo bb o S P A cs cp ca) => term2_any bo o S P A cs cp ca j (brW bs j) W h.o ⟨bq_lt _, bq_lt _⟩ HO.out hlt)
      have htb := term2_bd HO.out j hlt (brW bs j) ⟨bq_lt _, bq_lt _⟩
      have HMT := Lib.hid (show o.mt bs (j + 1) = o.mt bs j + o.term j (brW bs j) from rfl)
      have hi1 : ((brW bs j).bt : Int) = gi ((inW bs).map ib) j := by rw [gi_ib _ _ hil]; show (bq ((inW bs).getD j false) : Int) = _; rw [bq_ib, List.getD_eq_getElem?_getD, List.getElem?_eq_getElem hil]; rfl
      have hi2 : ((brW bs j).pr : Int) = gi ((outW bs).map ib) j := by rw [gi_ib _ _ hol]; show (bq ((outW bs).getD j false) : Int) = _; rw [bq_ib, List.getD_eq_getElem?_getD, List.getElem?_eq_getElem hol]; rfl
      have hi3 : (brW bs j).fr = 0 ∧ (brW bs j).tt = 0 ∧ (brW bs j).bt < 2 ∧ (brW bs j).pr < 2 := ⟨rfl, rfl, bq_lt _, bq_lt _⟩
      have HBW2 := Lib.hid (show brA (brW bs j) = .agg #[.int .i64 0, .int .i64 ((brW bs j).bt : Int), .int .i64 ((brW bs j).pr : Int), .int .i64 0] from rfl)
      clear hBr hil hol
      generalize brW bs j = b at *
      generalize o.mt bs j = mj at *
      generalize o.term j b = tj at *
      have HI1 := Lib.hid hi1
      have HI2 := Lib.hid hi2
      clear hi1 hi2
      go_wp2_with fail
      have hix1 := fun W => Rdv.ix HIr.out el26 hja .i64 W
      have hix2 := fun W => Rdv.ix HJr.out el26 hja .i64 W
      have hS0 : (fun W => W.cell? ⟨b11, 0, none⟩ = some (.pointer (some ⟨bo, 0, none⟩)) ∧ W.cell? (adr C1 j) = some (.int .u8 (b.bt : Int)) ∧ W.cell? (adr C2 j) = some (.int .u8 (b.pr : Int))) wr.drew := ⟨H5r.out.cell rfl, by rw [HI1.out]; exact Rd.cell HIr.out hja, by rw [HI2.out]; exact Rd.cell HJr.out hja⟩
      have g1 : (b.bt : Int) < 2 := by omega
      have g2 : (b.pr : Int) < 2 := by omega
      have v1 : IntKind.i64.wrap (b.bt : Int) = (b.bt : Int) := IntWalk.i64_in _ (by omega)
      have v2 : IntKind.i64.wrap (b.pr : Int) = (b.pr : Int) := IntWalk.i64_in _ (by omega)
      have v3 : IntKind.i64.wrap (mj + tj) = mj + tj := IntWalk.i64_in _ (by omega)
      refine P_start (fun W => W.cell? ⟨b11, 0, none⟩ = some (.pointer (some ⟨bo, 0, none⟩)) ∧ W.cell? (adr C1 j) = some (.int .u8 (b.bt : Int)) ∧ W.cell? (adr C2 j) = some (.int .u8 (b.pr : Int))) 15 18 #[false, false, false, false, false, false, false, false, false, false, false, false, false, false, false, false, false, false] (by kernel_rfl) (by kernel_rfl) (by kernel_rfl) ?_
      refine P_takeW 0 75 (.int .i64 mj) #[true, false, false, false, false, false, false, false, false, false, false, false, false, false, false, false, false, false] rfl rfl (by kernel_rfl) (by kernel_rfl) (by kernel_rfl) (by kernel_rfl) (by decide) (fun _ _ _ h => h) (Or.inl ⟨by rfl, fun W hS => by go_simp⟩) hS0 ?_
      simp only [List.setIfInBounds_toArray, List.set_cons_zero, List.set_cons_succ]
      refine P_takeW 1 76 (.pointer (some ⟨b11, 0, none⟩)) #[true, true, false, false, false, false, false, false, false, false, false, false, false, false, false, false, false, false] rfl rfl (by kernel_rfl) (by kernel_rfl) (by kernel_rfl) (by kernel_rfl) (by decide) (fun _ _ _ h => h) (Or.inl ⟨by rfl, fun W hS => by go_simp⟩) hS0 ?_
      simp only [List.setIfInBounds_toArray, List.set_cons_zero, List.set_cons_succ]
      refine P_take 2 77 (.pointer (some ⟨bo, 0, none⟩)) #[true, true, true, false, false, false, false, false, false, false, false, false, false, false, false, false, false, false] rfl rfl (by kernel_rfl) (by kernel_rfl) (by kernel_rfl) (by kernel_rfl) (by kernel_rfl) (by kernel_rfl) (by decide) (fun _ _ _ h => h) (Or.inl ⟨by rfl, fun W hS => by obtain ⟨s0, s1, s2⟩ := hS; go_simp⟩) hS0 ?_
      simp only [List.setIfInBounds_toArray, List.set_cons_zero, List.set_cons_succ]
      refine P_takeW 3 78 (.int .i64 (j : Int)) #[true, true, true, true, false, false, false, false, false, false, false, false, false, false, false, false, false, false] rfl rfl (by kernel_rfl) (by kernel_rfl) (by kernel_rfl) (by kernel_rfl) (by decide) (fun _ _ _ h => h) (Or.inl ⟨by rfl, fun W hS => by go_simp⟩) hS0 ?_
      simp only [List.setIfInBounds_toArray, List.set_cons_zero, List.set_cons_succ]
      refine P_takeW 4 79 (.slice C1 (o.a.length + 3) k1) #[true, true, true, true, true, false, false, false, false, false, false, false, false, false, false, false, false, false] rfl rfl (by kernel_rfl) (by kernel_rfl) (by kernel_rfl) (by kernel_rfl) (by decide) (fun _ _ _ h => h) (Or.inl ⟨by rfl, fun W hS => by go_simp⟩) hS0 ?_
      simp only [List.setIfInBounds_toArray, List.set_cons_zero, List.set_cons_succ]
      refine P_takeW 5 80 (.int .i64 (j : Int)) #[true, true, true, true, true, true, false, false, false, false, false, false, false, false, false, false, false, false] rfl rfl (by kernel_rfl) (by kernel_rfl) (by kernel_rfl) (by kernel_rfl) (by decide) (fun _ _ _ h => h) (Or.inl ⟨by rfl, fun W hS => by go_simp⟩) hS0 ?_
      simp only [List.setIfInBounds_toArray, List.set_cons_zero, List.set_cons_succ]
      refine P_takeW 6 81 (.pointer (some (adr C1 j))) #[true, true, true, true, true, true, true, false, false, false, false, false, false, false, false, false, false, false] rfl rfl (by kernel_rfl) (by kernel_rfl) (by kernel_rfl) (by kernel_rfl) (by decide) (fun _ _ _ h => h) (Or.inl ⟨by rfl, fun W hS => by go_simp⟩) hS0 ?_
      simp only [List.setIfInBounds_toArray, List.set_cons_zero, List.set_cons_succ]
      refine P_takeT 7 82 (.int .u8 (b.bt : Int)) #[true, true, true, true, true, true, true, true, false, false, false, false, false, false, false, false, false, false] [14, 8] rfl rfl (by kernel_rfl) (by kernel_rfl) (by kernel_rfl) (by kernel_rfl) (by kernel_rfl) (by kernel_rfl) (by kernel_rfl) (by decide) (fun _ _ _ h => h) (Or.inl ⟨by rfl, fun W hS => by obtain ⟨s0, s1, s2⟩ := hS; go_simp⟩) hS0 ?_
      simp only [List.setIfInBounds_toArray, List.set_cons_zero, List.set_cons_succ]
      refine P_takeW 8 83 (.int .i64 (b.bt : Int)) #[true, true, true, true, true, true, true, true, true, false, false, false, false, false, false, false, false, false] rfl rfl (by kernel_rfl) (by kernel_rfl) (by kernel_rfl) (by kernel_rfl) (by decide) (fun _ _ _ h => h) (Or.inl ⟨by rfl, fun W hS => by go_simp⟩) hS0 ?_
      simp only [List.setIfInBounds_toArray, List.set_cons_zero, List.set_cons_succ]
      refine P_takeW 9 84 (.slice C2 (o.a.length + 3) k2) #[true, true, true, true, true, true, true, true, true, true, false, false, false, false, false, false, false, false] rfl rfl (by kernel_rfl) (by kernel_rfl) (by kernel_rfl) (by kernel_rfl) (by decide) (fun _ _ _ h => h) (Or.inl ⟨by rfl, fun W hS => by go_simp⟩) hS0 ?_
      simp only [List.setIfInBounds_toArray, List.set_cons_zero, List.set_cons_succ]
      refine P_takeW 10 85 (.int .i64 (j : Int)) #[true, true, true, true, true, true, true, true, true, true, true, false, false, false, false, false, false, false] rfl rfl (by kernel_rfl) (by kernel_rfl) (by kernel_rfl) (by kernel_rfl) (by decide) (fun _ _ _ h => h) (Or.inl ⟨by rfl, fun W hS => by go_simp⟩) hS0 ?_
      simp only [List.setIfInBounds_toArray, List.set_cons_zero, List.set_cons_succ]
      refine P_takeW 11 86 (.pointer (some (adr C2 j))) #[true, true, true, true, true, true, true, true, true, true, true, true, false, false, false, false, false, false] rfl rfl (by kernel_rfl) (by kernel_rfl) (by kernel_rfl) (by kernel_rfl) (by decide) (fun _ _ _ h => h) (Or.inl ⟨by rfl, fun W hS => by go_simp⟩) hS0 ?_
      simp only [List.setIfInBounds_toArray, List.set_cons_zero, List.set_cons_succ]
      refine P_takeT 12 87 (.int .u8 (b.pr : Int)) #[true, true, true, true, true, true, true, true, true, true, true, true, true, false, false, false, false, false] [14, 13] rfl rfl (by kernel_rfl) (by kernel_rfl) (by kernel_rfl) (by kernel_rfl) (by kernel_rfl) (by kernel_rfl) (by kernel_rfl) (by decide) (fun _ _ _ h => h) (Or.inl ⟨by rfl, fun W hS => by obtain ⟨s0, s1, s2⟩ := hS; go_simp⟩) hS0 ?_
      simp only [List.setIfInBounds_toArray, List.set_cons_zero, List.set_cons_succ]
      refine P_takeW 13 88 (.int .i64 (b.pr : Int)) #[true, true, true, true, true, true, true, true, true, true, true, true, true, true, false, false, false, false] rfl rfl (by kernel_rfl) (by kernel_rfl) (by kernel_rfl) (by kernel_rfl) (by decide) (fun _ _ _ h => h) (Or.inl ⟨by rfl, fun W hS => by go_simp⟩) hS0 ?_
      simp only [List.setIfInBounds_toArray, List.set_cons_zero, List.set_cons_succ]
      refine P_takeW 14 89 (.agg #[.int .i64 0, .int .i64 (b.bt : Int), .int .i64 (b.pr : Int), .int .i64 0]) #[true, true, true, true, true, true, true, true, true, true, true, true, true, true, true, false, false, false] rfl rfl (by kernel_rfl) (by kernel_rfl) (by kernel_rfl) (by kernel_rfl) (by decide) (fun _ _ _ h => h) (Or.inl ⟨by rfl, fun W hS => by go_simp⟩) hS0 ?_
      simp only [List.setIfInBounds_toArray, List.set_cons_zero, List.set_cons_succ]
      refine P_one 15 #[true, true, true, true, true, true, true, true, true, true, true, true, true, true, true, true, false, false] rfl (by kernel_rfl) (by kernel_rfl) rfl (by kernel_rfl) (fun K hK => ?_)
      go_simp
      rw [← HBW2.out]
      refine (HTM.out _ (HSr.out.below (Below.refl _ wr).drew)).mono ?_
      rintro e w7 ⟨rfl, hB7⟩
      have HB7 := Lib.hid (HBr.out.trans (((Below.refl _ wr).drew.trans hB7).mono HBr.out.size))
      clear hB7 hS0 hix1 hix2 v1 v2
      refine hK _ _ ?_
      clear hK K
      refine P_takeX 16 91 (.int .i64 (mj + tj)) #[true, true, true, true, true, true, true, true, true, true, true, true, true, true, true, true, true, false] rfl rfl (by kernel_rfl) (by kernel_rfl) (by kernel_rfl) (by kernel_rfl) (by decide) (fun _ _ _ h => h) (Or.inl ⟨by rfl, fun W hS => by go_simp⟩) rfl ?_
      simp only [List.setIfInBounds_toArray, List.set_cons_zero, List.set_cons_succ]
      refine P_takeX 17 16 (.int .i64 (mj + tj)) #[true, true, true, true, true, true, true, true, true, true, true, true, true, true, true, true, true, true] rfl rfl (by kernel_rfl) (by kernel_rfl) (by kernel_rfl) (by kernel_rfl) (by decide) (fun _ _ _ h => h) (Or.inl ⟨by rfl, fun W hS => by go_simp⟩) rfl ?_
      simp only [List.setIfInBounds_toArray, List.set_cons_zero, List.set_cons_succ]
      refine P_done (by kernel_rfl) ?_ _
      go_wp2
      go_roundw
      case rel => exact ⟨j + 1, by omega, by go_num, by rw [HMT.out], HB7.out⟩
      case measure => simp [intOf]; omega
    · obtain rfl : j = o.s.length := by omega
      have HBr := Lib.hid hBr
      clear hBr
      go_wp2
      go_ret2
      exact ⟨rfl, HB5.out.trans (HBr.out.mono HB5.out.size)⟩
end Go.Proofs.Ytmdjclfmhndjnaa
