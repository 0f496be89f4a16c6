/-
  Bundle of the texts TuD TuE TuF TuG TuH TuP TuQ TuT TuZa. Conditions: none.
-/
import Derived.Test.YtpdalbckmfadbaaGreatBuhan
import Derived.Laws.ResultCell
import Derived.ScopeJumps
import Derived.WalkMore
import Derived.OwnWalk
import Derived.Test.YtpdalbckmfadbaaGreatBuhab
import Derived.Laws.BytesArg
namespace Go.Proofs.YtpdalbckmfadbaaGreat.Tu
open Go.RowKit
set_option linter.unusedVariables false
/-- A scope that is left forward by one goto. -/
theorem wp_scope_fwd {P : Program} {a : Act} {w : World} {Q : Exit → Act → World → Prop} {c rest : Code} (l : Nat) (hf : findLabel c l = some rest)
    (first : c.wp P (Exit.jump l (fun a w => rest.wp P (Exit.jump l (fun _ _ => False) Q) a w) Q) a w) : (Code.scope c).wp P Q a w :=
  wp_scope_jumps l (fun a w => rest.wp P (Exit.jump l (fun _ _ => False) Q) a w) (fun _ _ => 0) hf first fun a w h => Code.wp_mono (fun e a w h => by
    cases e <;> first | exact h | exact ⟨h.1, h.2.elim⟩) h
/-- An object of three ints in a block of its own. -/
def Obj3 (w : World) (base b : Nat) (x y z : Int) : Prop := Own .i64 182 w base (some ⟨b, 0, none⟩) 3 3 [x, y, z]
theorem Obj3.new (w : World) (x y z : Int) : Obj3 (w.alloc (.cells #[.int .i64 x, .int .i64 y, .int .i64 z] 182)) w.heap.size w.heap.size x y z :=
  Own.of_eq (Ownv.lit w #[.int .i64 x, .int .i64 y, .int .i64 z] 182 rfl (Nat.le_refl _) (by show 3 ≤ maxLen; unfold maxLen; omega)) rfl rfl
theorem Obj3.facts {w : World} {base b : Nat} {x y z : Int} (h : Obj3 w base b x y z) : w.cell? ⟨b, 0, none⟩ = some (.int .i64 x) ∧ w.cell? ⟨b, 1, none⟩ = some (.int .i64 y) ∧ w.cell? ⟨b, 2, none⟩ = some (.int .i64 z) ∧ w.frozen? ⟨b, 0, none⟩ = false ∧ w.frozen? ⟨b, 1, none⟩ = false ∧ w.frozen? ⟨b, 2, none⟩ = false :=
  ⟨Rd.cell (Own.rd h) (j := 0) (by omega), Rd.cell (Own.rd h) (j := 1) (by omega), Rd.cell (Own.rd h) (j := 2) (by omega), Ownv.frozen h (by omega) 0, Ownv.frozen h (by omega) 1, Ownv.frozen h (by omega) 2⟩
theorem Obj3.row {w : World} {base b : Nat} {x y z : Int} (h : Obj3 w base b x y z) : w.heap[b]? = some (.cells #[.int .i64 x, .int .i64 y, .int .i64 z] 182 (0, 0)) := by
  obtain ⟨_, h2⟩ := Ownv.cases h
  rcases h2 with ⟨h3, _⟩ | ⟨g, cur, h3, hb, hh, hnc, hcm, hs, ht⟩
  · cases h3
  · cases h3
    have : cur.toList = [.int .i64 x, .int .i64 y, .int .i64 z] := by
      rw [← List.take_of_length_le (l := cur.toList) (i := 3) (by simp [hs])]; exact ht
    rw [hh, show cur = #[.int .i64 x, .int .i64 y, .int .i64 z] from Array.toList_inj.1 this]
theorem Obj3.mono {w : World} {base base' b : Nat} {x y z : Int} (h : Obj3 w base b x y z) (hb : base' ≤ base) : Obj3 w base' b x y z := Ownv.mono h hb
theorem Obj3.ge {w : World} {base b : Nat} {x y z : Int} (h : Obj3 w base b x y z) : base ≤ b := (Ownv.blk_ge h (by omega)).1
theorem Obj3.set0 {w : World} {base b : Nat} {x y z : Int} (h : Obj3 w base b x y z) (v : Int) : Obj3 (w.setCell ⟨b, 0, none⟩ (.int .i64 v)) base b v y z := (Own.set_ h (j := 0) (by omega) v).1
theorem Obj3.set1 {w : World} {base b : Nat} {x y z : Int} (h : Obj3 w base b x y z) (v : Int) : Obj3 (w.setCell ⟨b, 1, none⟩ (.int .i64 v)) base b x v z := (Own.set_ h (j := 1) (by omega) v).1
theorem Obj3.set2 {w : World} {base b : Nat} {x y z : Int} (h : Obj3 w base b x y z) (v : Int) : Obj3 (w.setCell ⟨b, 2, none⟩ (.int .i64 v)) base b x y v := (Own.set_ h (j := 2) (by omega) v).1
theorem Obj3.below {w w1 : World} {base b : Nat} {x y z : Int} (h : Obj3 w base b x y z) (hB : Below w.heap.size w w1) : Obj3 w1 base b x y z := Ownv.below h hB
/-- a store into the object leaves all others as they are -/
theorem Obj3.gr {w : World} {base b : Nat} {x y z : Int} (h : Obj3 w base b x y z) (j : Nat) (hj : j < 3) (v : Int) : w.grownBy (w.setCell ⟨b, j, none⟩ (.int .i64 v)) (some b) := by
  have := (Own.set_ h (j := j) hj v).2
  rw [adr_some, Nat.zero_add] at this
  exact this
theorem Obj3.beside {w : World} {base b B b' : Nat} {x y z x' y' z' : Int} (h : Obj3 w base b x y z) (h' : Obj3 w B b' x' y' z') (hne : b' ≠ b) (j : Nat) (hj : j < 3) (v : Int) : Obj3 (w.setCell ⟨b, j, none⟩ (.int .i64 v)) B b' x' y' z' :=
  Ownv.grown h' (h.gr j hj v) (fun _ he => hne (Option.some.inj he))
theorem Obj3.bel {w w0 : World} {base b B : Nat} {x y z : Int} (h : Obj3 w base b x y z) (hB : Below B w0 w) (hb : B ≤ b) (hs : w0.heap.size ≤ w.heap.size) (j : Nat) (hj : j < 3) (v : Int) : Below B w0 (w.setCell ⟨b, j, none⟩ (.int .i64 v)) := by
  have hg := h.gr j hj v
  exact ⟨hg.os.trans hB.os, hg.tape.trans hB.tape, hg.output.trans hB.output, Nat.le_trans hs hg.size, fun k hk => (hg.block k (Nat.lt_of_lt_of_le (Nat.lt_of_lt_of_le hk hb) (Nat.le_of_lt (Ownv.blk_ge h (by omega)).2)) (by intro he; have := Option.some.inj he; omega)).trans (hB.block k hk)⟩
theorem res64 (a : Array Value) (W : World) (base g : Nat) (x y z : Int) (E : Int) (h2 : a.getD 2 undef = .pointer (some ⟨g, 0, none⟩)) (h3 : a.getD 3 undef = .int .i64 E) (hO : Obj3 W base g x y z) :
    (results Tryz.f120 a).run Tryz.prog W = .ok (.tuple #[.agg #[.int .i64 x, .int .i64 y, .int .i64 z], .int .i64 E]) W := by
  rw [results_cell_tmp rfl, h2, h3]
  have hl := run_loadVar_row (P := Tryz.prog) W g 182 182 _ (0, 0) _ hO.row Tryz.underlying182 rfl (by kernel_rfl)
  simp [asAddr, hl, Sem.run_pure]
def permV (k : Int) : Value := if validK k = true then .agg #[.int .i64 k, .int .i64 (f1N k.toNat : Int), .int .i64 (f2N k.toNat : Int)] else .agg #[.int .i64 0, .int .i64 0, .int .i64 0]
def permE (k : Int) : Int := if validK k = true then 0 else 2
/-- The loops of 'of': the product so far, the first coefficient so far. -/
def OfSt (w wr : World) (k a b : Nat) (A : Option Addr) (n : Nat) (D : List Nat) : Prop :=
  Obj3 wr w.heap.size (w.heap.size + 1) k a b ∧ Obj3 wr w.heap.size w.heap.size 0 0 0 ∧ Rd .i64 wr A n n (ints D) ∧ Below w.heap.size w wr
theorem OfSt.set {w wr : World} {k a b : Nat} {A : Option Addr} {n : Nat} {D : List Nat} (h : OfSt w wr k a b A n D) (hA : A ≠ none → blk A ≠ w.heap.size + 1) (j : Nat) (hj : j < 3) (v : Int) {a' b' : Nat} (hO : Obj3 (wr.setCell ⟨w.heap.size + 1, j, none⟩ (.int .i64 v)) w.heap.size (w.heap.size + 1) k a' b') :
    OfSt w (wr.setCell ⟨w.heap.size + 1, j, none⟩ (.int .i64 v)) k a' b' A n D :=
  ⟨hO, h.1.beside h.2.1 (by omega) j hj v, Rdv.grown h.2.2.1 (h.1.gr j hj v) (fun ha he => hA ha (Option.some.inj he)), h.1.bel h.2.2.2 (by omega) h.2.2.2.size j hj v⟩
def OfInv (w : World) (k : Nat) (A : Option Addr) (n : Nat) (D : List Nat) (i : Value) (wr : World) : Prop := ∃ j : Nat, j ≤ n ∧ i = .int .i64 j ∧ OfSt w wr k 3 (prodL (D.take j)) A n D
def OfInv2 (w : World) (k F f2 : Nat) (A : Option Addr) (n : Nat) (D : List Nat) (wr : World) : Prop := ∃ m f : Nat, fnd m f D = some F ∧ OfSt w wr k f f2 A n D
def cellNat (wr : World) (b j : Nat) : Nat := match wr.cell? ⟨b, j, none⟩ with
  | some (.int _ v) => v.toNat
  | _ => 0
theorem prodL_take (D : List Nat) (j : Nat) (h : j < D.length) : prodL (D.take (j + 1)) = prodL (D.take j) * D[j] := by
  rw [List.take_add_one, List.getElem?_eq_getElem h, prodL_app]; simp [prodL]
theorem prodL_take_le {D : List Nat} (hp : ∀ q ∈ D, 1 ≤ q) (j : Nat) : prodL (D.take j) ≤ prodL D := by
  have := prodL_le (a := D.take j) (t := D.drop j) (by rw [List.take_append_drop]; exact hp)
  rwa [List.take_append_drop] at this
set_option maxHeartbeats 1000000 in
theorem of_any (k : Int) (w : World) : Calls Tryz.prog 120 #[.int .i64 k] w fun e w' => e = .returned (.tuple #[permV k, .int .i64 (permE k)]) ∧ Below w.heap.size w w' := by
  by_cases hv : validK k = true
  · obtain ⟨kb0, kb1⟩ := valid_bd hv
    obtain ⟨n, rfl⟩ : ∃ n : Nat, k = (n : Int) := ⟨k.toNat, by omega⟩
    have hP := prm hv
    have e1 : permV (n : Int) = .agg #[.int .i64 n, .int .i64 (f1N n : Int), .int .i64 (f2N n : Int)] := by unfold permV; rw [if_pos hv, Int.toNat_natCast]
    have e2 : permE (n : Int) = 0 := by unfold permE; rw [if_pos hv]
    rw [e1, e2]
    clear e1 e2
    have hf2 : f2N n = prodL (dvL n) := rfl
    obtain ⟨-, -, pd, pf, -, pl, pb1, pb2, pp⟩ := hP
    rw [hf2] at pb2 ⊢
    have HP := Lib.hid pp
    have HF := Lib.hid pf
    clear pp pf hf2
    generalize dvL n = D at *
    generalize f1N n = F at *
    have HPB := Lib.hid pb2
    clear pb2
    go_enter Tryz.func120, Tryz.ntmps120
    go_wp2_with fail
    go_step3
    go_wp2_with fail
    refine (valid_any _ _).mono ?_
    rintro e w1 ⟨rfl, hB1⟩
    rw [hv]
    have hO : Obj3 w1 w.heap.size w.heap.size 0 0 0 := Ownv.below (Ownv.alloc (Obj3.new w 0 0 0) _) hB1
    have hO1 : Obj3 w1 w.heap.size (w.heap.size + 1) n 3 1 := by
      have h1 := Obj3.new (w.alloc (.cells #[.int .i64 0, .int .i64 0, .int .i64 0] 182)) n 3 1
      rw [show (w.alloc (.cells #[.int .i64 0, .int .i64 0, .int .i64 0] 182)).heap.size = w.heap.size + 1 by simp] at h1
      exact (h1.mono (by omega)).below hB1
    have hBw : Below w.heap.size w w1 := (((Below.refl _ w).alloc (Nat.le_refl _) _).alloc (by simp) _).trans (hB1.mono (by simp; omega))
    have hsz : w.heap.size + 2 ≤ w1.heap.size := by have := hB1.size; simpa using this
    clear hB1 hv
    go_wp2_with fail
    refine (divisors_any n D (by omega) (by omega) pd pl w1).mono ?_
    rintro e w2 ⟨rfl, hR, hB2⟩
    have hst : OfSt w w2 n 3 (prodL (D.take 0)) (some ⟨w1.heap.size, 0, none⟩) D.length D := ⟨hO1.below hB2, hO.below hB2, hR, hBw.trans (hB2.mono hBw.size)⟩
    have hA : (some ⟨w1.heap.size, 0, none⟩ : Option Addr) ≠ none → blk (some ⟨w1.heap.size, 0, none⟩) ≠ w.heap.size + 1 := fun _ he => by
      have : w1.heap.size = w.heap.size + 1 := he
      omega
    have HA := Lib.hid hA
    have hDl : D.length ≤ 12 := pl
    clear hO hO1 hBw hB2 hR hA pd
    generalize w1.heap.size = g at *
    go_wp2_with fail
    go_loopw [18] (fun i wr => OfInv w n (some ⟨g, 0, none⟩) D.length D i wr) (fun i _ => D.length - (intOf i).toNat)
    case atStart => exact ⟨0, by omega, rfl, hst⟩
    case round =>
      obtain ⟨j, hj, rfl, hs⟩ := hrel
      clear hst
      by_cases hlt : j < D.length
      · have hix := fun W => Rdv.ix hs.2.2.1 el33 hlt .i64 W
        have hcell := Rd.cell hs.2.2.1 hlt
        rw [gi_ints _ _ hlt, adr_some, Nat.zero_add] at hcell
        obtain ⟨c0, c1, c2, f0, f1, f2⟩ := hs.1.facts
        have hpt := prodL_take D j hlt
        have hple := prodL_take_le HP.out (j + 1)
        have hpb := HPB.out
        obtain ⟨P', hP'⟩ : ∃ P', prodL (D.take (j + 1)) = P' := ⟨_, rfl⟩
        have HS := Lib.hid hs
        rw [hP'] at hpt hple
        have HPT := Lib.hid hP'
        generalize prodL (D.take j) = p at *
        have em : (p : Int) * (D[j] : Int) = (P' : Int) := by rw [hpt, Int.natCast_mul]
        have hP'b : P' ≤ 6144 := by omega
        clear hs hP' hpt hple hpb
        generalize D[j] = d at *
        go_wp2
        go_roundw
        case rel => exact ⟨j + 1, by omega, by go_num, by rw [HPT.out]; exact HS.out.set HA.out 2 (by omega) _ (HS.out.1.set2 _)⟩
        case measure => simp [intOf]; omega
      · obtain rfl : j = D.length := by omega
        rw [List.take_length] at hs
        go_wp2_with fail
        go_loopw [35] (fun _ wr => OfInv2 w n F (prodL D) (some ⟨g, 0, none⟩) D.length D wr) (fun _ wr => F - cellNat wr (w.heap.size + 1) 1)
        case atStart => exact ⟨50, 3, HF.out, hs⟩
        case round =>
          obtain ⟨m, f, hfd, hst⟩ := hrel
          clear hs
          obtain ⟨c0, c1, c2, f0, f1, f2⟩ := hst.1.facts
          have hfF := fnd_le _ _ _ _ hfd
          have HFD := Lib.hid hfd
          clear hfd
          go_wp2_with fail
          refine (coprime_any f (by omega) _ _ _ D HP.out _ hst.2.2.1).mono ?_
          rintro e w4 ⟨rfl, rfl⟩
          by_cases hc : cop f D = true
          · obtain rfl := fnd_end HFD.out hc
            rw [hc]
            obtain ⟨d0, d1, d2, g0, g1, g2⟩ := hst.2.1.facts
            have HST := Lib.hid hst
            clear hst hc
            go_wp2
            rw [Exit.noGoto_ret]
            have q0 := HST.out.2.1
            have qB := HST.out.2.2.2
            have h1 := q0.bel (B := w.heap.size) (w0 := w) qB (Nat.le_refl _) qB.size 0 (by omega) n
            have h2 := (q0.set0 n).bel h1 (Nat.le_refl _) h1.size 1 (by omega) f
            have h3 := ((q0.set0 n).set1 f).bel h2 (Nat.le_refl _) h2.size 2 (by omega) (prodL D)
            exact bodyPost_ret (res64 _ _ _ w.heap.size n f (prodL D) 0 rfl rfl (((q0.set0 n).set1 f).set2 (prodL D))) rfl ⟨rfl, h3⟩
          · have hcf : cop f D = false := by simpa using hc
            obtain ⟨hle, m', hm'⟩ := fnd_step HFD.out hcf
            rw [hcf]
            have HM := Lib.hid hm'
            have HST := Lib.hid hst
            clear hst hc hcf hm'
            go_wp2
            go_roundw
            case rel => exact ⟨m', f + 2, HM.out, HST.out.set HA.out 1 (by omega) _ (HST.out.1.set1 _)⟩
            case measure =>
              have h1 : cellNat wr (w.heap.size + 1) 1 = f := by unfold cellNat; rw [c1]; rfl
              have h2 : cellNat (wr.setCell ⟨w.heap.size + 1, 1, none⟩ (.int .i64 ((f : Int) + 2))) (w.heap.size + 1) 1 = f + 2 := by
                unfold cellNat; rw [(HST.out.1.set1 ((f : Int) + 2)).facts.2.1]; simp; omega
              rw [h1, h2]; omega
  · have e1 : permV k = .agg #[.int .i64 0, .int .i64 0, .int .i64 0] := by unfold permV; rw [if_neg hv]
    have e2 : permE k = 2 := by unfold permE; rw [if_neg hv]
    rw [e1, e2]
    have hv' : validK k = false := by simpa using hv
    clear e1 e2 hv
    go_enter Tryz.func120, Tryz.ntmps120
    go_wp2_with fail
    refine wp_scope_fwd 0 rfl ?_
    go_wp2_with fail
    refine (valid_any _ _).mono ?_
    rintro e w1 ⟨rfl, hB1⟩
    have hO : Obj3 w1 w.heap.size w.heap.size 0 0 0 := Ownv.below (Ownv.alloc (Obj3.new w 0 0 0) _) hB1
    obtain ⟨c0, c1, c2, f0, f1, f2⟩ := hO.facts
    go_wp2
    go_step3
    refine ⟨rfl, ?_⟩
    go_wp2
    simp only [Exit.jump]
    have hO' := ((hO.set0 0).set1 0).set2 0
    have h1 := hO.bel (B := w.heap.size) (w0 := w) ((((Below.refl _ w).alloc (Nat.le_refl _) _).alloc (by simp) _).trans (hB1.mono (by simp; omega))) (Nat.le_refl _) (by have := hB1.size; simp at this; omega) 0 (by omega) 0
    have h2 := (hO.set0 0).bel h1 (Nat.le_refl _) h1.size 1 (by omega) 0
    have h3 := ((hO.set0 0).set1 0).bel h2 (Nat.le_refl _) h2.size 2 (by omega) 0
    exact bodyPost_ret (res64 _ _ _ w.heap.size 0 0 0 2 rfl rfl hO') rfl ⟨rfl, h3⟩
end Go.Proofs.YtpdalbckmfadbaaGreat.Tu

namespace Go.Proofs.YtpdalbckmfadbaaGreat.Tu
open Go.RowKit
set_option linter.unusedVariables false
theorem bnext {w w1 w2 : World} (h : Below w.heap.size w w1) (h2 : Below w1.heap.size w1 w2) : Below w.heap.size w w2 := h.trans (h2.mono h.size)
theorem ordset_any (A : Option Addr) (n c : Nat) (vs : List Int) (j : Nat) (v : Int) (base : Nat) (w : World) (h : Own .i64 3 w base A n c vs) (hj : j < n) :
    Calls Tryz.prog 129 #[.slice A n c, .int .i64 j, .int .i64 v] w fun e w' => e = .returned (.tuple #[]) ∧ Own .i64 3 w' base A n c (vs.set j v) ∧ w.grownBy w' (some (blk A)) := by
  have hix := fun W => Rdv.ix (Own.rd h) el33 hj .i64 W
  have hcell := Rd.cell (Own.rd h) hj
  have hfz := Ownv.frozen h (by have := Rdv.le (Own.rd h); omega) j
  have HSET := Lib.hid (Own.set_ h hj v)
  clear h
  go_enter Tryz.func129, Tryz.ntmps129
  go_wp2
  go_returns
  exact ⟨rfl, HSET.out.1, HSET.out.2⟩
theorem grown_below {B : Nat} {w0 w w' : World} {r : Nat} (hb : Below B w0 w) (hg : w.grownBy w' (some r)) (hr : B ≤ r) (hs : B ≤ w.heap.size) : Below B w0 w' :=
  ⟨hg.os.trans hb.os, hg.tape.trans hb.tape, hg.output.trans hb.output, Nat.le_trans hb.size hg.size, fun k hk => (hg.block k (by omega) (by intro he; have := Option.some.inj he; omega)).trans (hb.block k hk)⟩
theorem gi_set (m : List Int) (i t : Nat) (v : Int) (hi : i < m.length) : gi (m.set i v) t = if i = t then v else gi m t := by
  unfold gi
  rw [List.getD_eq_getElem?_getD, List.getElem?_set]
  by_cases h : i = t
  · rw [if_pos h, if_pos h, if_pos (by omega)]; rfl
  · rw [if_neg h, if_neg h, ← List.getD_eq_getElem?_getD]
def MadeSt (w wr : World) (k f1 f2 b : Nat) (A : Option Addr) (j : Nat) : Prop :=
  ∃ vs, Own .i64 3 wr w.heap.size A k k vs ∧ (∀ q, q < j → gi vs q = (((f1 * q + f2 * q % k * q) % k : Nat) : Int)) ∧ Obj3 wr w.heap.size b k f1 f2 ∧ Below w.heap.size w wr
def MadeInv (w : World) (k f1 f2 b : Nat) (A : Option Addr) (i : Value) (wr : World) : Prop := ∃ j : Nat, j ≤ k ∧ i = .int .i64 j ∧ MadeSt w wr k f1 f2 b A j
def ordR (k : Int) : List Int := if validK k = true then ordL k.toNat else []
set_option maxRecDepth 100000 in
set_option maxHeartbeats 1000000 in
theorem madei_any (k : Int) (w : World) : Calls Tryz.prog 128 #[.int .i64 k, .func (.func 129) #[] #[]] w fun e w' => ∃ A n, e = .returned (.tuple #[.slice A n n, .int .i64 (permE k)]) ∧ Own .i64 3 w' w.heap.size A n n (ordR k) ∧ Below w.heap.size w w' := by
  by_cases hv : validK k = true
  · obtain ⟨kb0, kb1⟩ := valid_bd hv
    obtain ⟨n, rfl⟩ : ∃ n : Nat, k = (n : Int) := ⟨k.toNat, by omega⟩
    have hP := prm hv
    have e1 : permV (n : Int) = .agg #[.int .i64 n, .int .i64 (f1N n : Int), .int .i64 (f2N n : Int)] := by unfold permV; rw [if_pos hv, Int.toNat_natCast]
    have e2 : permE (n : Int) = 0 := by unfold permE; rw [if_pos hv]
    have e3 : ordR (n : Int) = ordL n := by unfold ordR; rw [if_pos hv, Int.toNat_natCast]
    rw [e2, e3]
    have ho := fun W => Lib.hid (of_any (n : Int) W)
    rw [e1, e2] at ho
    have hf1 := hP.b1
    have hf2 := hP.b2
    have HORD : Hid (∀ vs : List Int, vs.length = n → (∀ q, q < n → gi vs q = (((f1N n * q + f2N n * q % n * q) % n : Nat) : Int)) → vs = ordL n) := Lib.hid (by
      intro vs hl hq
      refine ext_gi (by rw [hl]; simp [ordL]) fun q hq' => ?_
      rw [hq q (by omega), gi_eq _ _ (by simp [ordL]; omega)]
      simp [ordL, piN])
    clear e1 e2 e3 hv hP
    generalize f1N n = f1 at *
    generalize f2N n = f2 at *
    go_enter Tryz.func128, Tryz.ntmps128
    go_wp2_with fail
    refine (ho _).out.mono ?_
    rintro e w1 ⟨rfl, hB1⟩
    have hO1 := Obj3.new w1 n f1 f2
    go_wp2_with (at_make; refine list_of rfl fun K hK => wp_mk (n := n) _ _ 34 rfl el33 rfl rfl (by omega) (by unfold maxLen; omega) ?_; intro Am wm hOm hBm hA; refine hK _ _ ?_; clear hK K)
    have hsz := hB1.size
    have hO2 : Obj3 wm w.heap.size w1.heap.size n f1 f2 := (hO1.mono hsz).below hBm
    have hblk : blk Am ≠ w1.heap.size := by
      have := (Ownv.blk_ge hOm (by omega)).1
      simp at this
      omega
    have hst : MadeSt w wm n f1 f2 w1.heap.size Am 0 := ⟨List.replicate n 0, Own.of_eq (Ownv.mono hOm (by simp; omega)) rfl (by simp), by intro q hq; omega, hO2, (hB1.alloc hsz _).trans (hBm.mono (by simp; omega))⟩
    have HBLK := Lib.hid hblk
    clear hO1 hO2 hOm hBm hblk hsz hB1
    generalize w1.heap.size = b at *
    go_loopw [21] (fun i wr => MadeInv w n f1 f2 b Am i wr) (fun i _ => n - (intOf i).toNat)
    case atStart => exact ⟨0, by omega, rfl, hst⟩
    case round =>
      obtain ⟨j, hj, rfl, vs, hO, hq, hobj, hB⟩ := hrel
      clear hst
      by_cases hlt : j < n
      · obtain ⟨c0, c1, c2, f0, f1', f2'⟩ := hobj.facts
        have ha := fun W => Lib.hid (at_any n f1 f2 j (by omega) (by omega) hf1 hf2 (by omega) W)
        have HQ := Lib.hid hq
        clear hq f0 f1' f2'
        unfold polyV at ha
        go_wp2_with (first
          | (go_at_call 121; refine (ha _).out.mono ?_; rintro e w4 ⟨rfl, hB4⟩)
          | (go_at_call 129; refine (ordset_any Am n n vs j _ w.heap.size _ (Ownv.below hO hB4) hlt).mono ?_; rintro e w5 ⟨rfl, hO5, hg5⟩))
        have hl := (Own.rd hO).len
        have hg5' := hg5
        refine ⟨⟨j + 1, by omega, by go_num, _, hO5, fun q hq => ?_, Ownv.grown (hobj.below hB4) hg5 (fun _ he => HBLK.out (Option.some.inj he).symm), ?_⟩, by simp [intOf]; omega⟩
        · rw [gi_set _ _ _ _ (by omega)]
          by_cases e : j = q
          · subst e; rw [if_pos rfl]; simp [Int.natCast_emod, Int.natCast_add, Int.natCast_mul]
          · rw [if_neg e]; exact HQ.out q (by omega)
        · have hB' := hB.trans (hB4.mono hB.size)
          exact grown_below hB' hg5 (Ownv.blk_ge hO (by omega)).1 hB'.size
      · obtain rfl : j = n := by omega
        have HQ := Lib.hid hq
        clear hq
        go_wp2
        go_ret2
        exact ⟨Am, j, rfl, by rw [← HORD.out vs (Own.rd hO).len HQ.out]; exact hO, hB⟩
  · have e1 : permV k = .agg #[.int .i64 0, .int .i64 0, .int .i64 0] := by unfold permV; rw [if_neg hv]
    have e2 : permE k = 2 := by unfold permE; rw [if_neg hv]
    have e3 : ordR k = [] := by unfold ordR; rw [if_neg hv]
    rw [e2, e3]
    have ho := fun W => Lib.hid (of_any k W)
    rw [e1, e2] at ho
    clear e1 e2 e3 hv
    go_enter Tryz.func128, Tryz.ntmps128
    go_wp2_with fail
    refine (ho _).out.mono ?_
    rintro e w1 ⟨rfl, hB1⟩
    go_wp2
    go_ret2
    exact ⟨none, 0, rfl, Own.nilv _ _ _ _, hB1.alloc hB1.size _⟩
theorem order_any (k : Int) (w : World) : Calls Tryz.prog 88 #[.int .i64 k] w fun e w' => ∃ A n, e = .returned (.tuple #[.slice A n n, .int .i64 (permE k)]) ∧ Own .i64 3 w' w.heap.size A n n (ordR k) ∧ Below w.heap.size w w' := by
  go_enter Tryz.func88, Tryz.ntmps88
  go_wp2_with fail
  refine (madei_any k _).mono ?_
  rintro e w1 ⟨A, n, rfl, hO, hB⟩
  go_wp2
  go_ret2
  exact ⟨A, n, rfl, hO, hB⟩
end Go.Proofs.YtpdalbckmfadbaaGreat.Tu

namespace Go.Proofs.YtpdalbckmfadbaaGreat.Tu
open Go.RowKit
set_option linter.unusedVariables false
def PrmInv (D : List Nat) (f2 k p : Value) : Prop :=
  ∃ (kk q : Nat) (acc : List Nat), f2 = .int .i64 (prodL acc : Int) ∧ k = .int .i64 kk ∧ p = .int .i64 q ∧ 1 ≤ kk ∧ kk ≤ 6144 ∧ 2 ≤ q ∧ q ≤ 102 ∧ dvs (102 - q) q kk acc = some D
def GInv (k F : Nat) (w : World) (f : Value) (wr : World) : Prop := ∃ (m g : Nat), f = .int .i64 g ∧ fndG m g k = some F ∧ Qt w wr
def prmR1 (k : Int) : Int := if validK k = true then (f1N k.toNat : Int) else 0
def prmR2 (k : Int) : Int := if validK k = true then (f2N k.toNat : Int) else 0
set_option maxRecDepth 100000 in
set_option maxHeartbeats 1000000 in
theorem params_any (k : Int) (w : World) : Calls Tryz.prog 100 #[.int .i64 k] w fun e w' => e = .returned (.tuple #[.int .i64 (prmR1 k), .int .i64 (prmR2 k), .int .i64 (permE k)]) ∧ Qt w w' := by
  by_cases hv : validK k = true
  · obtain ⟨kb0, kb1⟩ := valid_bd hv
    obtain ⟨n, rfl⟩ : ∃ n : Nat, k = (n : Int) := ⟨k.toNat, by omega⟩
    have hP := prm hv
    have e1 : prmR1 (n : Int) = (f1N n : Int) := by unfold prmR1; rw [if_pos hv, Int.toNat_natCast]
    have e2 : prmR2 (n : Int) = (f2N n : Int) := by unfold prmR2; rw [if_pos hv, Int.toNat_natCast]
    have e3 : permE (n : Int) = 0 := by unfold permE; rw [if_pos hv]
    rw [e1, e2, e3]
    clear e1 e2 e3
    have hf2 : f2N n = prodL (dvL n) := rfl
    obtain ⟨-, -, pd, -, pg, pl, pb1, pb2, pp⟩ := hP
    rw [hf2] at pb2 ⊢
    have hbd : ∀ f p k acc, dvs f p k acc = some (dvL n) → prodL acc ≤ 6144 := fun f p k acc h => by
      obtain ⟨t, ht⟩ := dvs_pre f p k acc _ h
      have := prodL_le (a := acc) (t := t) (by rw [← ht]; exact pp)
      rw [← ht] at this
      omega
    have HBD := Lib.hid hbd
    have HG := Lib.hid pg
    have HD := Lib.hid pd
    clear pp pg pd hf2 hbd pb2 pl
    generalize dvL n = D at *
    generalize f1N n = F at *
    go_enter Tryz.func100, Tryz.ntmps100
    go_wp2_with fail
    refine (rvalid_any _ _).mono ?_
    rintro e w1 ⟨rfl, rfl⟩
    rw [hv]
    clear hv
    go_wp2
    go_loop [5, 6, 7] (fun f2 kv pv => PrmInv D f2 kv pv) (fun _ _ pv => 102 - (intOf pv).toNat)
    case atStart => exact ⟨n, 2, [], rfl, rfl, rfl, by omega, by omega, by omega, by omega, HD.out⟩
    case round =>
      obtain ⟨kk, q, acc, rfl, rfl, rfl, h1, h2, hq2, hq102, hd⟩ := hrel
      by_cases hk1 : 1 < kk
      · obtain ⟨f', k2, hf, hs, hd'⟩ := dvs_step hd hk1
        obtain rfl : f' = 102 - (q + 1) := by omega
        have HS := Lib.hid hs
        have ht : (kk : Int).tmod (q : Int) = ((kk % q : Nat) : Int) := rfl
        have hm : (kk : Int) % (q : Int) = ((kk % q : Nat) : Int) := rfl
        have hfq : q < 102 := by omega
        clear hd hs hf
        by_cases h0 : kk % q = 0
        · rw [if_pos h0] at hd'
          rw [h0] at ht hm
          have hpb := HBD.out _ _ _ _ hd'
          obtain ⟨P, hPP⟩ : ∃ P, prodL (acc ++ [q]) = P := ⟨_, rfl⟩
          have em : (prodL acc : Int) * (q : Int) = (P : Int) := by
            rw [← hPP, prodL_app, ← Int.natCast_mul]; simp [prodL]
          rw [hPP] at hpb
          have HPP := Lib.hid hPP
          have HD' := Lib.hid hd'
          clear hd' h0 hPP
          generalize hpa : prodL acc = pa at *
          have HPA := Lib.hid hpa
          clear hpa
          go_wp2
          go_loop [6] (fun x => StripInv q k2 x) (fun x => (intOf x).toNat)
          case atStart => exact ⟨14, kk, rfl, h1, h2, HS.out⟩
          case round =>
            obtain ⟨g, x, rfl, hx1, hx2, hxs⟩ := hrel
            have hxt : (x : Int).tmod (q : Int) = ((x % q : Nat) : Int) := rfl
            have hxm : (x : Int) % (q : Int) = ((x % q : Nat) : Int) := rfl
            have hxq : (x : Int).tdiv (q : Int) = ((x / q : Nat) : Int) := rfl
            have hxd : (x : Int) / (q : Int) = ((x / q : Nat) : Int) := rfl
            by_cases hx0 : x % q = 0
            · rw [hx0] at hxt hxm
              obtain ⟨g', rfl, hg⟩ := strip_step hxs hx0
              have hge : 1 ≤ x / q := by
                rcases Nat.eq_zero_or_pos (x / q) with e | e
                · have := Nat.div_add_mod x q; rw [e, hx0] at this; omega
                · exact e
              have hlt : x / q < x := Nat.div_lt_self hx1 hq2
              have HGS := Lib.hid hg
              clear hxs hg hx0
              generalize x / q = y at *
              go_wp2
              go_round
              case rel => exact ⟨g', y, by go_num, hge, by omega, HGS.out⟩
              case measure => simp [intOf]; omega
            · have hxe := strip_end hxs hx0
              subst hxe
              obtain ⟨m, hm', hmp⟩ : ∃ m : Nat, x % q = m ∧ m ≠ 0 := ⟨_, rfl, hx0⟩
              rw [hm'] at hxt hxm
              have hz : ((m : Int) == 0) = false := beq_f (by omega)
              clear hx0 hxs
              go_wp2
              go_round
              case rel => exact ⟨x, q + 1, _, by rw [HPP.out], rfl, by go_num, hx1, hx2, by omega, by omega, HD'.out⟩
              case measure => simp [intOf]; omega
        · rw [if_neg h0] at hd'
          obtain ⟨m0, hm0, hmp0⟩ : ∃ m : Nat, kk % q = m ∧ m ≠ 0 := ⟨_, rfl, h0⟩
          rw [hm0] at ht hm
          have hz0 : ((m0 : Int) == 0) = false := beq_f (by omega)
          have HD' := Lib.hid hd'
          clear hd' h0 hm0
          generalize hpa : prodL acc = pa at *
          have HPA := Lib.hid hpa
          clear hpa
          go_wp2
          go_loop [6] (fun x => StripInv q k2 x) (fun x => (intOf x).toNat)
          case atStart => exact ⟨14, kk, rfl, h1, h2, HS.out⟩
          case round =>
            obtain ⟨g, x, rfl, hx1, hx2, hxs⟩ := hrel
            have hxt : (x : Int).tmod (q : Int) = ((x % q : Nat) : Int) := rfl
            have hxm : (x : Int) % (q : Int) = ((x % q : Nat) : Int) := rfl
            have hxq : (x : Int).tdiv (q : Int) = ((x / q : Nat) : Int) := rfl
            have hxd : (x : Int) / (q : Int) = ((x / q : Nat) : Int) := rfl
            by_cases hx0 : x % q = 0
            · rw [hx0] at hxt hxm
              obtain ⟨g', rfl, hg⟩ := strip_step hxs hx0
              have hge : 1 ≤ x / q := by
                rcases Nat.eq_zero_or_pos (x / q) with e | e
                · have := Nat.div_add_mod x q; rw [e, hx0] at this; omega
                · exact e
              have hlt : x / q < x := Nat.div_lt_self hx1 hq2
              have HGS := Lib.hid hg
              clear hxs hg hx0
              generalize x / q = y at *
              go_wp2
              go_round
              case rel => exact ⟨g', y, by go_num, hge, by omega, HGS.out⟩
              case measure => simp [intOf]; omega
            · have hxe := strip_end hxs hx0
              subst hxe
              obtain ⟨m, hm', hmp⟩ : ∃ m : Nat, x % q = m ∧ m ≠ 0 := ⟨_, rfl, hx0⟩
              rw [hm'] at hxt hxm
              have hz : ((m : Int) == 0) = false := beq_f (by omega)
              clear hx0 hxs
              go_wp2
              go_round
              case rel => exact ⟨x, q + 1, _, by rw [HPA.out], rfl, by go_num, hx1, hx2, by omega, by omega, HD'.out⟩
              case measure => simp [intOf]; omega
      · have he := dvs_end hd (by omega)
        subst he
        clear hd
        generalize hpf : prodL acc = f2
        have HPF := Lib.hid hpf
        clear hpf
        go_wp2
        go_loopw [8] (fun f wr => GInv n F w f wr) (fun f _ => F + 2 - (intOf f).toNat)
        case atStart => exact ⟨50, 3, rfl, HG.out, Qt.refl _⟩
        case round =>
          obtain ⟨m, g, rfl, hg, hQ⟩ := hrel
          have hgF := fndG_le _ _ _ _ hg
          have HGG := Lib.hid hg
          clear hg
          go_wp2_with fail
          refine (common_any g n (by omega) (by omega) _).mono ?_
          rintro e w4 ⟨rfl, hQ4⟩
          have hQQ := hQ.trans hQ4
          clear hQ hQ4
          by_cases hc : 1 < Nat.gcd g n
          · obtain ⟨hle, m', hm'⟩ := fndG_step HGG.out hc
            have HM := Lib.hid hm'
            clear hm'
            generalize Nat.gcd g n = gg at *
            go_wp2
            go_roundw
            case rel => exact ⟨m', g + 2, by go_num, HM.out, hQQ⟩
            case measure => simp [intOf]; omega
          · obtain rfl := fndG_end HGG.out hc
            generalize Nat.gcd g n = gg at *
            go_wp2
            go_ret3
            refine ⟨?_, hQQ⟩
            rw [HPF.out]
            rfl
  · have e1 : prmR1 k = 0 := by unfold prmR1; rw [if_neg hv]
    have e2 : prmR2 k = 0 := by unfold prmR2; rw [if_neg hv]
    have e3 : permE k = 2 := by unfold permE; rw [if_neg hv]
    rw [e1, e2, e3]
    have hv' : validK k = false := by simpa using hv
    clear e1 e2 e3 hv
    go_enter Tryz.func100, Tryz.ntmps100
    go_wp2_with fail
    refine (rvalid_any _ _).mono ?_
    rintro e w1 ⟨rfl, rfl⟩
    rw [hv']
    go_wp2
    go_ret3
    exact ⟨rfl, Qt.refl _⟩
end Go.Proofs.YtpdalbckmfadbaaGreat.Tu

namespace Go.Proofs.YtpdalbckmfadbaaGreat.Tu
open Go.RowKit
set_option linter.unusedVariables false
def OrdInv (w : World) (k f1 f2 : Nat) (i : Value) (o : Value) (wr : World) : Prop :=
  ∃ (j : Nat) (A : Option Addr) (c : Nat), j ≤ k ∧ i = .int .i64 j ∧ o = .slice A j c ∧ Own .i64 3 wr w.heap.size A j c ((List.range j).map fun q => (((f1 * q + f2 * q % k * q) % k : Nat) : Int)) ∧ Below w.heap.size w wr
set_option maxRecDepth 100000 in
set_option maxHeartbeats 1000000 in
theorem rorder_any (k : Int) (w : World) : Calls Tryz.prog 54 #[.int .i64 k] w fun e w' => ∃ A n c, e = .returned (.tuple #[.slice A n c, .int .i64 (permE k)]) ∧ Own .i64 3 w' w.heap.size A n c (ordR k) ∧ Below w.heap.size w w' := by
  by_cases hv : validK k = true
  · obtain ⟨kb0, kb1⟩ := valid_bd hv
    obtain ⟨n, rfl⟩ : ∃ n : Nat, k = (n : Int) := ⟨k.toNat, by omega⟩
    have hP := prm hv
    have e1 : prmR1 (n : Int) = (f1N n : Int) := by unfold prmR1; rw [if_pos hv, Int.toNat_natCast]
    have e2 : prmR2 (n : Int) = (f2N n : Int) := by unfold prmR2; rw [if_pos hv, Int.toNat_natCast]
    have e3 : permE (n : Int) = 0 := by unfold permE; rw [if_pos hv]
    have e4 : ordR (n : Int) = (List.range n).map fun q => (((f1N n * q + f2N n * q % n * q) % n : Nat) : Int) := by unfold ordR; rw [if_pos hv, Int.toNat_natCast]; rfl
    have ho := fun W => Lib.hid (params_any (n : Int) W)
    rw [e1, e2, e3] at ho
    rw [e3, e4]
    have hf1 := hP.b1
    have hf2 := hP.b2
    clear e1 e2 e3 e4 hv hP
    generalize f1N n = f1 at *
    generalize f2N n = f2 at *
    go_enter Tryz.func54, Tryz.ntmps54
    go_wp2_with fail
    refine (ho _).out.mono ?_
    rintro e w1 ⟨rfl, hQ1⟩
    go_wp2_with fail
    go_loopw [8, 7] (fun i o wr => OrdInv w n f1 f2 i o wr) (fun i _ _ => n - (intOf i).toNat)
    case atStart => exact ⟨0, none, 0, by omega, rfl, rfl, Own.nilv _ _ _ _, hQ1.below _⟩
    case round =>
      obtain ⟨j, A, c, hj, rfl, rfl, hO, hB⟩ := hrel
      clear ho hQ1
      by_cases hlt : j < n
      · obtain ⟨m1, h1'⟩ : ∃ m : Nat, m = f1 * j := ⟨_, rfl⟩
        obtain ⟨m2, h2'⟩ : ∃ m : Nat, m = f2 * j := ⟨_, rfl⟩
        obtain ⟨m3, h3'⟩ : ∃ m : Nat, m = m2 % n := ⟨_, rfl⟩
        obtain ⟨m4, h4'⟩ : ∃ m : Nat, m = m3 * j := ⟨_, rfl⟩
        obtain ⟨m6, h6'⟩ : ∃ m : Nat, m = (m1 + m4) % n := ⟨_, rfl⟩
        have q1 : (f1 : Int) * (j : Int) = (m1 : Int) := by rw [h1', Int.natCast_mul]
        have q2 : (f2 : Int) * (j : Int) = (m2 : Int) := by rw [h2', Int.natCast_mul]
        have q3 : (m2 : Int).tmod (n : Int) = (m3 : Int) := by rw [h3']; rfl
        have q4 : (m3 : Int) * (j : Int) = (m4 : Int) := by rw [h4', Int.natCast_mul]
        have q6 : ((m1 : Int) + (m4 : Int)).tmod (n : Int) = (m6 : Int) := by rw [h6', ← Int.natCast_add]; rfl
        have q3' : (m2 : Int) % (n : Int) = (m3 : Int) := by rw [h3']; rfl
        have q6' : ((m1 : Int) + (m4 : Int)) % (n : Int) = (m6 : Int) := by rw [h6', ← Int.natCast_add]; rfl
        have b1 : m1 ≤ 6144000 := by have := mul_bd hf1 (show j ≤ 6144 by omega); omega
        have b2 : m2 ≤ 37748736 := by have := mul_bd hf2 (show j ≤ 6144 by omega); omega
        have b3 : m3 ≤ 6144 := by rw [h3']; have := Nat.mod_lt m2 (show 0 < n by omega); omega
        have b4 : m4 ≤ 37748736 := by rw [h4']; have := mul_bd b3 (show j ≤ 6144 by omega); omega
        have HE : Hid (((List.range (j + 1)).map fun q => (((f1 * q + f2 * q % n * q) % n : Nat) : Int)) = ((List.range j).map fun q => (((f1 * q + f2 * q % n * q) % n : Nat) : Int)) ++ [(m6 : Int)]) := Lib.hid (by
          rw [List.range_succ, List.map_append, h6', h4', h3', h2', h1']; rfl)
        have hsz := hB.size
        clear h1' h2' h3' h4' h6'
        generalize ((List.range j).map fun q => (((f1 * q + f2 * q % n * q) % n : Nat) : Int)) = vs at *
        go_wp2_with (at_builtin; refine list_of rfl fun K hK => wp_app1 _ _ 34 rfl el33 rfl (.int .i64 (m6 : Int)) rfl rfl hO (by omega) (by omega) hsz ?_; intro A' c' w' hO' hg; refine hK _ _ ?_; clear hK K)
        go_roundw
        case rel => exact ⟨j + 1, A', c', by omega, by go_num, rfl, by rw [HE.out]; exact Own.of_eq hO' rfl (by simp), hB.grown hg hsz (fun k hk => Ownv.ob' hO hk)⟩
        case measure => simp [intOf]; omega
      · obtain rfl : j = n := by omega
        go_wp2
        go_ret2
        exact ⟨A, j, c, rfl, hO, hB⟩
  · have e1 : prmR1 k = 0 := by unfold prmR1; rw [if_neg hv]
    have e2 : prmR2 k = 0 := by unfold prmR2; rw [if_neg hv]
    have e3 : permE k = 2 := by unfold permE; rw [if_neg hv]
    have e4 : ordR k = [] := by unfold ordR; rw [if_neg hv]
    have ho := fun W => Lib.hid (params_any k W)
    rw [e1, e2, e3] at ho
    rw [e3, e4]
    clear e1 e2 e3 e4 hv
    go_enter Tryz.func54, Tryz.ntmps54
    go_wp2_with fail
    refine (ho _).out.mono ?_
    rintro e w1 ⟨rfl, hQ1⟩
    go_wp2
    go_ret2
    exact ⟨none, 0, 0, rfl, Own.nilv _ _ _ _, hQ1.below _⟩
end Go.Proofs.YtpdalbckmfadbaaGreat.Tu

namespace Go.Proofs.YtpdalbckmfadbaaGreat.Tu
open Go.RowKit
set_option linter.unusedVariables false
theorem el22 : El Tryz.prog 22 5 (.int .u8 0) 1 := ⟨by kernel_rfl, by kernel_rfl, fun _ => by kernel_rfl, rfl⟩
end Go.Proofs.YtpdalbckmfadbaaGreat.Tu

namespace Go.Proofs.YtpdalbckmfadbaaGreat.Tu
open Go.RowKit
set_option linter.unusedVariables false
/-- x[:m:m] -/
theorem Rdv.slhm {P : Program} {w : World} {A : Option Addr} {n c : Nat} {vs : List Value} (h : Rdv w A n c vs) {t e : TypeId} {z : Value} {bytes : Nat} (E : El P t e z bytes) (kh km : IntKind) {m : Nat} (hm : m ≤ c) (W : World) :
    (Instr.sliceAt t (.slice A n c) none (some (.int kh (m : Int))) (some (.int km (m : Int)))).run P W = .ok (.slice A m m) W := by
  have e1 : P.underlying t = some (.slice (P.elem t)) := by rw [E.u]; simp [Program.elem, E.u]
  have e2 : P.elem t = e := by simp [Program.elem, E.u]
  rw [run_sliceAt_slice W t _ _ _ _ e1, run_slice_hm W t A n c e1 kh km m m (by omega) (by omega) (by omega), e2, E.s]
  simp only [Result.andThen_ok, Int.toNat_natCast, sliced, Nat.zero_mul, Nat.sub_zero]
  congr 2
  split
  · rfl
  · cases A <;> simp [Addr.add]
theorem Rdv.capn {w : World} {A : Option Addr} {n c : Nat} {vs : List Value} (h : Rdv w A n c vs) : Rdv w A n n vs := by
  have hle := h.le
  exact ⟨h.len, Nat.le_refl _, Nat.le_trans hle h.cm, fun e => by have := h.nil e; omega, fun hn => h.spot (by omega), fun hn => h.lt (by omega), h.at_⟩
end Go.Proofs.YtpdalbckmfadbaaGreat.Tu

namespace Go.Proofs.YtpdalbckmfadbaaGreat.Tu
open Go.RowKit
set_option linter.unusedVariables false
theorem res28 (a : Array Value) (W : World) (base g : Nat) (l : List Value) (hl : l.length = 7) (E : Int) (h2 : a.getD 2 undef = .pointer (some ⟨g, 0, none⟩)) (h3 : a.getD 3 undef = .int .i64 E) (hO : Ownv 65 W base (some ⟨g, 0, none⟩) 7 7 l) :
    (results Tryz.f28 a).run Tryz.prog W = .ok (.tuple #[.agg l.toArray, .int .i64 E]) W := by
  rw [results_cell_tmp rfl, h2, h3]
  have h9 : (Tryz.prog.info? 65).map (·.size) = some 7 := by kernel_rfl
  have hl := run_loadVar_row (P := Tryz.prog) W g 65 65 _ (0, 0) _ (Ownv.row hO) Tryz.underlying65 rfl (by rw [h9]; simp [hl])
  simp [asAddr, hl, Sem.run_pure]
end Go.Proofs.YtpdalbckmfadbaaGreat.Tu

namespace Go.Proofs.YtpdalbckmfadbaaGreat.Tu
open Go.RowKit
set_option linter.unusedVariables false
theorem valid_len {n : Nat} (h : validK (n : Int) = true) : 40 ≤ n ∧ n ≤ 6144 := by have := valid_bd h; omega
def mixB (bs : List Bool) : List Bool := (List.range bs.length).map fun i => bs.getD (piN bs.length i) false
theorem mixB_len (bs : List Bool) : (mixB bs).length = bs.length := by simp [mixB]
def OutInv (w wL : World) (n : Nat) (W : Nat → List Int) (i o : Value) (wr : World) : Prop :=
  ∃ (j : Nat) (A : Option Addr) (c : Nat), j ≤ 3 ∧ i = .int .i64 j ∧ o = .slice A (j * (n + 4)) c ∧ Own .u8 5 wr wL.heap.size A (j * (n + 4)) c (W j) ∧ Below wL.heap.size wL wr
end Go.Proofs.YtpdalbckmfadbaaGreat.Tu

namespace Go.Proofs.YtpdalbckmfadbaaGreat.Tu
open Go.RowKit
set_option linter.unusedVariables false
theorem conv_rd {w : World} {A : Option Addr} {n c : Nat} {xs : List Int} (h : Rd .u8 w A n c xs) : (convert 22 9 (.slice A n c)).run Tryz.prog w = .ok (.string (strOfNums xs)) w := by
  have hu : Tryz.prog.underlying 9 = some .string := by kernel_rfl
  have h5 : Tryz.prog.underlying 5 = some (.int .u8) := by kernel_rfl
  cases A with
  | none =>
    have := Rdv.nil h rfl
    have := Rdv.le h
    obtain rfl : n = 0 := by omega
    obtain rfl : xs = [] := List.eq_nil_of_length_eq_zero h.len
    exact run_convert_bytes_nil w 22 5 el22.u h5 0 c 9 hu
  | some a =>
    by_cases hn : n = 0
    · subst hn
      obtain rfl : xs = [] := List.eq_nil_of_length_eq_zero h.len
      rw [run_convert_bytes_string w 22 9 5 _ 0 c el22.u h5 hu, run_bytesToString w a 0 c [] (by simpa using run_loadCells_list (P := Tryz.prog) w a [] (fun j v hj => by cases hj))]
      rfl
    · obtain ⟨b, o, hA, _⟩ := Rdv.ptr h (by have := Rdv.le h; omega)
      cases hA
      exact run_convert_bytes_arg w 22 5 el22.u h5 b o n c xs h.len (fun i hi => Rd.cell h hi) 9 hu
theorem strOf_inj {xs ys : List Int} (hx : ∀ x ∈ xs, 0 ≤ x ∧ x < 256) (hy : ∀ x ∈ ys, 0 ≤ x ∧ x < 256) (h1 : xs.map (fun n => UInt8.ofNat n.toNat) = ys.map (fun n => UInt8.ofNat n.toNat)) : xs = ys := by
  have hl : xs.length = ys.length := by simpa using congrArg List.length h1
  apply List.ext_getElem hl
  intro i hi hj
  have h2 : (xs.map (fun n => UInt8.ofNat n.toNat))[i]'(by simpa using hi) = (ys.map (fun n => UInt8.ofNat n.toNat))[i]'(by simpa using hj) := by simp only [h1]
  simp only [List.getElem_map] at h2
  have h3 := congrArg UInt8.toNat h2
  have a := hx _ (List.getElem_mem hi)
  have b := hy _ (List.getElem_mem hj)
  simp only [UInt8.toNat_ofNat'] at h3
  rw [Nat.mod_eq_of_lt (by omega), Nat.mod_eq_of_lt (by omega)] at h3
  omega
theorem strEq {xs ys : List Int} (hx : ∀ x ∈ xs, 0 ≤ x ∧ x < 256) (hy : ∀ x ∈ ys, 0 ≤ x ∧ x < 256) : ((strOfNums xs).toList == (strOfNums ys).toList) = decide (xs = ys) := by
  rw [ByteArray.toList_eq, ByteArray.toList_eq, strOfNums_data, strOfNums_data]
  by_cases h : xs = ys
  · subst h; simp
  · have h9 : ¬ (xs.map fun n => UInt8.ofNat n.toNat) = (ys.map fun n => UInt8.ofNat n.toNat) := fun e => h (strOf_inj hx hy e)
    simp only [h, decide_false]
    exact beq_eq_false_iff_ne.2 h9
/-- the block of bits that some bytes and a number stand for -/
def szK (u : Nat) : Nat := 40 + 8 * (u % 60)
end Go.Proofs.YtpdalbckmfadbaaGreat.Tu

