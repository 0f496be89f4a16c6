/-
  Contract of qpp.of: the coefficients of the permutation polynomial of a block size, or the error. Condition: none.
-/
import Derived.Test.YtkagdiejpcfggaaC
import Derived.Laws.ResultCell
import Derived.ScopeJumps
import Derived.WalkMore
namespace Go.Proofs.Ytkagdiejpcfggaa
open Go.RowKit
set_option linter.unusedVariables false
/-- A scope that is left forward by one goto. -/
theorem wp_scope_fwd {P : Program} {a : Act} {w : World} {Q : Exit → Act → World → Prop} {c rest : Code} (l : Nat) (hf : findLabel c l = some rest)
    (first : c.wp P (Exit.jump l (fun a w => rest.wp P (Exit.jump l (fun _ _ => False) Q) a w) Q) a w) : (Code.scope c).wp P Q a w :=
  wp_scope_jumps l (fun a w => rest.wp P (Exit.jump l (fun _ _ => False) Q) a w) (fun _ _ => 0) hf first fun a w h => Code.wp_mono (fun e a w h => by
    cases e <;> first | exact h | exact ⟨h.1, h.2.elim⟩) h
/-- An object of three ints in a block of its own. -/
def Obj3 (w : World) (base b : Nat) (x y z : Int) : Prop := Own .i64 111 w base (some ⟨b, 0, none⟩) 3 3 [x, y, z]
theorem Obj3.new (w : World) (x y z : Int) : Obj3 (w.alloc (.cells #[.int .i64 x, .int .i64 y, .int .i64 z] 111)) w.heap.size w.heap.size x y z :=
  Own.of_eq (Ownv.lit w #[.int .i64 x, .int .i64 y, .int .i64 z] 111 rfl (Nat.le_refl _) (by show 3 ≤ maxLen; unfold maxLen; omega)) rfl rfl
theorem Obj3.facts {w : World} {base b : Nat} {x y z : Int} (h : Obj3 w base b x y z) : w.cell? ⟨b, 0, none⟩ = some (.int .i64 x) ∧ w.cell? ⟨b, 1, none⟩ = some (.int .i64 y) ∧ w.cell? ⟨b, 2, none⟩ = some (.int .i64 z) ∧ w.frozen? ⟨b, 0, none⟩ = false ∧ w.frozen? ⟨b, 1, none⟩ = false ∧ w.frozen? ⟨b, 2, none⟩ = false :=
  ⟨Rd.cell (Own.rd h) (j := 0) (by omega), Rd.cell (Own.rd h) (j := 1) (by omega), Rd.cell (Own.rd h) (j := 2) (by omega), Ownv.frozen h (by omega) 0, Ownv.frozen h (by omega) 1, Ownv.frozen h (by omega) 2⟩
theorem Obj3.row {w : World} {base b : Nat} {x y z : Int} (h : Obj3 w base b x y z) : w.heap[b]? = some (.cells #[.int .i64 x, .int .i64 y, .int .i64 z] 111 (0, 0)) := by
  obtain ⟨_, h2⟩ := Ownv.cases h
  rcases h2 with ⟨h3, _⟩ | ⟨g, cur, h3, hb, hh, hnc, hcm, hs, ht⟩
  · cases h3
  · cases h3
    have : cur.toList = [.int .i64 x, .int .i64 y, .int .i64 z] := by
      rw [← List.take_of_length_le (l := cur.toList) (i := 3) (by simp [hs])]; exact ht
    rw [hh, show cur = #[.int .i64 x, .int .i64 y, .int .i64 z] from Array.toList_inj.1 this]
theorem Obj3.mono {w : World} {base base' b : Nat} {x y z : Int} (h : Obj3 w base b x y z) (hb : base' ≤ base) : Obj3 w base' b x y z := Ownv.mono h hb
theorem Obj3.ge {w : World} {base b : Nat} {x y z : Int} (h : Obj3 w base b x y z) : base ≤ b := (Ownv.blk_ge h (by omega)).1
theorem Obj3.set0 {w : World} {base b : Nat} {x y z : Int} (h : Obj3 w base b x y z) (v : Int) : Obj3 (w.setCell ⟨b, 0, none⟩ (.int .i64 v)) base b v y z := (Own.set_ h (j := 0) (by omega) v).1
theorem Obj3.set1 {w : World} {base b : Nat} {x y z : Int} (h : Obj3 w base b x y z) (v : Int) : Obj3 (w.setCell ⟨b, 1, none⟩ (.int .i64 v)) base b x v z := (Own.set_ h (j := 1) (by omega) v).1
theorem Obj3.set2 {w : World} {base b : Nat} {x y z : Int} (h : Obj3 w base b x y z) (v : Int) : Obj3 (w.setCell ⟨b, 2, none⟩ (.int .i64 v)) base b x y v := (Own.set_ h (j := 2) (by omega) v).1
theorem Obj3.below {w w1 : World} {base b : Nat} {x y z : Int} (h : Obj3 w base b x y z) (hB : Below w.heap.size w w1) : Obj3 w1 base b x y z := Ownv.below h hB
/-- a store into the object leaves all others as they are -/
theorem Obj3.gr {w : World} {base b : Nat} {x y z : Int} (h : Obj3 w base b x y z) (j : Nat) (hj : j < 3) (v : Int) : w.grownBy (w.setCell ⟨b, j, none⟩ (.int .i64 v)) (some b) := by
  have := (Own.set_ h (j := j) hj v).2
  rw [adr_some, Nat.zero_add] at this
  exact this
theorem Obj3.beside {w : World} {base b B b' : Nat} {x y z x' y' z' : Int} (h : Obj3 w base b x y z) (h' : Obj3 w B b' x' y' z') (hne : b' ≠ b) (j : Nat) (hj : j < 3) (v : Int) : Obj3 (w.setCell ⟨b, j, none⟩ (.int .i64 v)) B b' x' y' z' :=
  Ownv.grown h' (h.gr j hj v) (fun _ he => hne (Option.some.inj he))
theorem Obj3.bel {w w0 : World} {base b B : Nat} {x y z : Int} (h : Obj3 w base b x y z) (hB : Below B w0 w) (hb : B ≤ b) (hs : w0.heap.size ≤ w.heap.size) (j : Nat) (hj : j < 3) (v : Int) : Below B w0 (w.setCell ⟨b, j, none⟩ (.int .i64 v)) := by
  have hg := h.gr j hj v
  exact ⟨hg.os.trans hB.os, hg.tape.trans hB.tape, hg.output.trans hB.output, Nat.le_trans hs hg.size, fun k hk => (hg.block k (Nat.lt_of_lt_of_le (Nat.lt_of_lt_of_le hk hb) (Nat.le_of_lt (Ownv.blk_ge h (by omega)).2)) (by intro he; have := Option.some.inj he; omega)).trans (hB.block k hk)⟩
theorem res64 (a : Array Value) (W : World) (base g : Nat) (x y z : Int) (E : Int) (h2 : a.getD 2 undef = .pointer (some ⟨g, 0, none⟩)) (h3 : a.getD 3 undef = .int .i64 E) (hO : Obj3 W base g x y z) :
    (results Try.f64 a).run Try.prog W = .ok (.tuple #[.agg #[.int .i64 x, .int .i64 y, .int .i64 z], .int .i64 E]) W := by
  rw [results_cell_tmp rfl, h2, h3]
  have hl := run_loadVar_row (P := Try.prog) W g 111 111 _ (0, 0) _ hO.row Try.underlying111 rfl (by kernel_rfl)
  simp [asAddr, hl, Sem.run_pure]
def permV (k : Int) : Value := if validK k = true then .agg #[.int .i64 k, .int .i64 (f1N k.toNat : Int), .int .i64 (f2N k.toNat : Int)] else .agg #[.int .i64 0, .int .i64 0, .int .i64 0]
def permE (k : Int) : Int := if validK k = true then 0 else 2
/-- The loops of 'of': the product so far, the first coefficient so far. -/
def OfSt (w wr : World) (k a b : Nat) (A : Option Addr) (n : Nat) (D : List Nat) : Prop :=
  Obj3 wr w.heap.size (w.heap.size + 1) k a b ∧ Obj3 wr w.heap.size w.heap.size 0 0 0 ∧ Rd .i64 wr A n n (ints D) ∧ Below w.heap.size w wr
theorem OfSt.set {w wr : World} {k a b : Nat} {A : Option Addr} {n : Nat} {D : List Nat} (h : OfSt w wr k a b A n D) (hA : A ≠ none → blk A ≠ w.heap.size + 1) (j : Nat) (hj : j < 3) (v : Int) {a' b' : Nat} (hO : Obj3 (wr.setCell ⟨w.heap.size + 1, j, none⟩ (.int .i64 v)) w.heap.size (w.heap.size + 1) k a' b') :
    OfSt w (wr.setCell ⟨w.heap.size + 1, j, none⟩ (.int .i64 v)) k a' b' A n D :=
  ⟨hO, h.1.beside h.2.1 (by omega) j hj v, Rdv.grown h.2.2.1 (h.1.gr j hj v) (fun ha he => hA ha (Option.some.inj he)), h.1.bel h.2.2.2 (by omega) h.2.2.2.size j hj v⟩
def OfInv (w : World) (k : Nat) (A : Option Addr) (n : Nat) (D : List Nat) (i : Value) (wr : World) : Prop := ∃ j : Nat, j ≤ n ∧ i = .int .i64 j ∧ OfSt w wr k 3 (prodL (D.take j)) A n D
def OfInv2 (w : World) (k F f2 : Nat) (A : Option Addr) (n : Nat) (D : List Nat) (wr : World) : Prop := ∃ m f : Nat, fnd m f D = some F ∧ OfSt w wr k f f2 A n D
def cellNat (wr : World) (b j : Nat) : Nat := match wr.cell? ⟨b, j, none⟩ with
  | some (.int _ v) => v.toNat
  | _ => 0
theorem prodL_take (D : List Nat) (j : Nat) (h : j < D.length) : prodL (D.take (j + 1)) = prodL (D.take j) * D[j] := by
  rw [List.take_add_one, List.getElem?_eq_getElem h, prodL_app]; simp [prodL]
theorem prodL_take_le {D : List Nat} (hp : ∀ q ∈ D, 1 ≤ q) (j : Nat) : prodL (D.take j) ≤ prodL D := by
  have := prodL_le (a := D.take j) (t := D.drop j) (by rw [List.take_append_drop]; exact hp)
  rwa [List.take_append_drop] at this
set_option maxHeartbeats 1000000 in
theorem of_any (k : Int) (w : World) : Calls Try.prog 64 #[.int .i64 k] w fun e w' => e = .returned (.tuple #[permV k, .int .i64 (permE k)]) ∧ Below w.heap.size w w' := by
  by_cases hv : validK k = true
  · obtain ⟨kb0, kb1⟩ := valid_bd hv
    obtain ⟨n, rfl⟩ : ∃ n : Nat, k = (n : Int) := ⟨k.toNat, by omega⟩
    have hP := prm hv
    have e1 : permV (n : Int) = .agg #[.int .i64 n, .int .i64 (f1N n : Int), .int .i64 (f2N n : Int)] := by unfold permV; rw [if_pos hv, Int.toNat_natCast]
    have e2 : permE (n : Int) = 0 := by unfold permE; rw [if_pos hv]
    rw [e1, e2]
    clear e1 e2
    have hf2 : f2N n = prodL (dvL n) := rfl
    obtain ⟨-, -, pd, pf, -, pl, pb1, pb2, pp⟩ := hP
    rw [hf2] at pb2 ⊢
    have HP := Lib.hid pp
    have HF := Lib.hid pf
    clear pp pf hf2
    generalize dvL n = D at *
    generalize f1N n = F at *
    have HPB := Lib.hid pb2
    clear pb2
    go_enter Try.func64, Try.ntmps64
    go_wp2_with fail
    go_step3
    go_wp2_with fail
    refine (valid_any _ _).mono ?_
    rintro e w1 ⟨rfl, hB1⟩
    rw [hv]
    have hO : Obj3 w1 w.heap.size w.heap.size 0 0 0 := Ownv.below (Ownv.alloc (Obj3.new w 0 0 0) _) hB1
    have hO1 : Obj3 w1 w.heap.size (w.heap.size + 1) n 3 1 := by
      have h1 := Obj3.new (w.alloc (.cells #[.int .i64 0, .int .i64 0, .int .i64 0] 111)) n 3 1
      rw [show (w.alloc (.cells #[.int .i64 0, .int .i64 0, .int .i64 0] 111)).heap.size = w.heap.size + 1 by simp] at h1
      exact (h1.mono (by omega)).below hB1
    have hBw : Below w.heap.size w w1 := (((Below.refl _ w).alloc (Nat.le_refl _) _).alloc (by simp) _).trans (hB1.mono (by simp; omega))
    have hsz : w.heap.size + 2 ≤ w1.heap.size := by have := hB1.size; simpa using this
    clear hB1 hv
    go_wp2_with fail
    refine (divisors_any n D (by omega) (by omega) pd pl w1).mono ?_
    rintro e w2 ⟨rfl, hR, hB2⟩
    have hst : OfSt w w2 n 3 (prodL (D.take 0)) (some ⟨w1.heap.size, 0, none⟩) D.length D := ⟨hO1.below hB2, hO.below hB2, hR, hBw.trans (hB2.mono hBw.size)⟩
    have hA : (some ⟨w1.heap.size, 0, none⟩ : Option Addr) ≠ none → blk (some ⟨w1.heap.size, 0, none⟩) ≠ w.heap.size + 1 := fun _ he => by
      have : w1.heap.size = w.heap.size + 1 := he
      omega
    have HA := Lib.hid hA
    have hDl : D.length ≤ 12 := pl
    clear hO hO1 hBw hB2 hR hA pd
    generalize w1.heap.size = g at *
    go_wp2_with fail
    go_loopw [18] (fun i wr => OfInv w n (some ⟨g, 0, none⟩) D.length D i wr) (fun i _ => D.length - (intOf i).toNat)
    case atStart => exact ⟨0, by omega, rfl, hst⟩
    case round =>
      obtain ⟨j, hj, rfl, hs⟩ := hrel
      clear hst
      by_cases hlt : j < D.length
      · have hix := fun W => Rdv.ix hs.2.2.1 el33 hlt .i64 W
        have hcell := Rd.cell hs.2.2.1 hlt
        rw [gi_ints _ _ hlt, adr_some, Nat.zero_add] at hcell
        obtain ⟨c0, c1, c2, f0, f1, f2⟩ := hs.1.facts
        have hpt := prodL_take D j hlt
        have hple := prodL_take_le HP.out (j + 1)
        have hpb := HPB.out
        obtain ⟨P', hP'⟩ : ∃ P', prodL (D.take (j + 1)) = P' := ⟨_, rfl⟩
        have HS := Lib.hid hs
        rw [hP'] at hpt hple
        have HPT := Lib.hid hP'
        generalize prodL (D.take j) = p at *
        have em : (p : Int) * (D[j] : Int) = (P' : Int) := by rw [hpt, Int.natCast_mul]
        have hP'b : P' ≤ 6144 := by omega
        clear hs hP' hpt hple hpb
        generalize D[j] = d at *
        go_wp2
        go_roundw
        case rel => exact ⟨j + 1, by omega, by go_num, by rw [HPT.out]; exact HS.out.set HA.out 2 (by omega) _ (HS.out.1.set2 _)⟩
        case measure => simp [intOf]; omega
      · obtain rfl : j = D.length := by omega
        rw [List.take_length] at hs
        go_wp2_with fail
        go_loopw [35] (fun _ wr => OfInv2 w n F (prodL D) (some ⟨g, 0, none⟩) D.length D wr) (fun _ wr => F - cellNat wr (w.heap.size + 1) 1)
        case atStart => exact ⟨50, 3, HF.out, hs⟩
        case round =>
          obtain ⟨m, f, hfd, hst⟩ := hrel
          clear hs
          obtain ⟨c0, c1, c2, f0, f1, f2⟩ := hst.1.facts
          have hfF := fnd_le _ _ _ _ hfd
          have HFD := Lib.hid hfd
          clear hfd
          go_wp2_with fail
          refine (coprime_any f (by omega) _ _ _ D HP.out _ hst.2.2.1).mono ?_
          rintro e w4 ⟨rfl, rfl⟩
          by_cases hc : cop f D = true
          · obtain rfl := fnd_end HFD.out hc
            rw [hc]
            obtain ⟨d0, d1, d2, g0, g1, g2⟩ := hst.2.1.facts
            have HST := Lib.hid hst
            clear hst hc
            go_wp2
            rw [Exit.noGoto_ret]
            have q0 := HST.out.2.1
            have qB := HST.out.2.2.2
            have h1 := q0.bel (B := w.heap.size) (w0 := w) qB (Nat.le_refl _) qB.size 0 (by omega) n
            have h2 := (q0.set0 n).bel h1 (Nat.le_refl _) h1.size 1 (by omega) f
            have h3 := ((q0.set0 n).set1 f).bel h2 (Nat.le_refl _) h2.size 2 (by omega) (prodL D)
            exact bodyPost_ret (res64 _ _ _ w.heap.size n f (prodL D) 0 rfl rfl (((q0.set0 n).set1 f).set2 (prodL D))) rfl ⟨rfl, h3⟩
          · have hcf : cop f D = false := by simpa using hc
            obtain ⟨hle, m', hm'⟩ := fnd_step HFD.out hcf
            rw [hcf]
            have HM := Lib.hid hm'
            have HST := Lib.hid hst
            clear hst hc hcf hm'
            go_wp2
            go_roundw
            case rel => exact ⟨m', f + 2, HM.out, HST.out.set HA.out 1 (by omega) _ (HST.out.1.set1 _)⟩
            case measure =>
              have h1 : cellNat wr (w.heap.size + 1) 1 = f := by unfold cellNat; rw [c1]; rfl
              have h2 : cellNat (wr.setCell ⟨w.heap.size + 1, 1, none⟩ (.int .i64 ((f : Int) + 2))) (w.heap.size + 1) 1 = f + 2 := by
                unfold cellNat; rw [(HST.out.1.set1 ((f : Int) + 2)).facts.2.1]; simp; omega
              rw [h1, h2]; omega
  · have e1 : permV k = .agg #[.int .i64 0, .int .i64 0, .int .i64 0] := by unfold permV; rw [if_neg hv]
    have e2 : permE k = 2 := by unfold permE; rw [if_neg hv]
    rw [e1, e2]
    have hv' : validK k = false := by simpa using hv
    clear e1 e2 hv
    go_enter Try.func64, Try.ntmps64
    go_wp2_with fail
    refine wp_scope_fwd 0 rfl ?_
    go_wp2_with fail
    refine (valid_any _ _).mono ?_
    rintro e w1 ⟨rfl, hB1⟩
    have hO : Obj3 w1 w.heap.size w.heap.size 0 0 0 := Ownv.below (Ownv.alloc (Obj3.new w 0 0 0) _) hB1
    obtain ⟨c0, c1, c2, f0, f1, f2⟩ := hO.facts
    go_wp2
    go_step3
    refine ⟨rfl, ?_⟩
    go_wp2
    simp only [Exit.jump]
    have hO' := ((hO.set0 0).set1 0).set2 0
    have h1 := hO.bel (B := w.heap.size) (w0 := w) ((((Below.refl _ w).alloc (Nat.le_refl _) _).alloc (by simp) _).trans (hB1.mono (by simp; omega))) (Nat.le_refl _) (by have := hB1.size; simp at this; omega) 0 (by omega) 0
    have h2 := (hO.set0 0).bel h1 (Nat.le_refl _) h1.size 1 (by omega) 0
    have h3 := ((hO.set0 0).set1 0).bel h2 (Nat.le_refl _) h2.size 2 (by omega) 0
    exact bodyPost_ret (res64 _ _ _ w.heap.size 0 0 0 2 rfl rfl hO') rfl ⟨rfl, h3⟩
end Go.Proofs.Ytkagdiejpcfggaa
