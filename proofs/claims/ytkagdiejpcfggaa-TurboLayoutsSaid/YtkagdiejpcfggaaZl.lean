/-
  Plain facts for the statements on flipped bits and on the layouts of a word. Condition: a block size of at most 512.
-/
import Derived.Test.YtkagdiejpcfggaaZk
namespace Go.Proofs.Ytkagdiejpcfggaa
open Go.RowKit
set_option linter.unusedVariables false
/-- distance of the first q bits -/
def dstQ (x y : List Bool) (q : Nat) : Nat := wt ((xorL x y).take q)
theorem w1_le (b : Bool) : w1 b ≤ 1 := by cases b <;> decide
theorem dstQ_zero (x y : List Bool) : dstQ x y 0 = 0 := rfl
theorem dstQ_succ (x y : List Bool) (h : x.length = y.length) (q : Nat) (hq : q < x.length) : dstQ x y (q + 1) = dstQ x y q + w1 (x[q] ^^ y[q]'(by omega)) := by
  unfold dstQ
  rw [List.take_succ_eq_append_getElem (by rw [xorL_len _ _ h]; exact hq), wt_app, xorL_get _ _ h _ hq, wt_cons, wt_nil, Nat.add_zero]
theorem dstQ_le (x y : List Bool) (q : Nat) : dstQ x y q ≤ q := by
  unfold dstQ wt
  exact Nat.le_trans List.count_le_length (by rw [List.length_take]; omega)
theorem dstQ_all (x y : List Bool) (h : x.length = y.length) (n : Nat) (hn : n = x.length) : dstQ x y n = dst x y := by
  subst hn
  unfold dstQ dst
  rw [List.take_of_length_le (by rw [xorL_len _ _ h]; exact Nat.le_refl _)]
theorem wt_false (n : Nat) : wt (List.replicate n false) = 0 := by
  unfold wt; rw [List.count_replicate]; rfl
theorem dst_self (x : List Bool) : dst x x = 0 := by unfold dst; rw [xorL_self, wt_false]
theorem dst_pos {x y : List Bool} (h : x.length = y.length) (hne : x ≠ y) : 0 < dst x y := by
  unfold dst wt
  exact List.count_pos_iff.2 (xorL_true x y h hne)
theorem dst_set : ∀ (x y : List Bool) (k : Nat) (b : Bool), dst (x.set k b) y ≤ dst x y + 1
  | [], y, k, b => by simp
  | a :: x, [], k, b => by cases k <;> simp [dst, xorL, wt]
  | a :: x, c :: y, 0, b => by
    have h1 := w1_le (b ^^ c)
    simp only [List.set_cons_zero, dst, xorL, List.zipWith_cons_cons, wt_cons]
    omega
  | a :: x, c :: y, k + 1, b => by
    have h := dst_set x y k b
    simp only [dst] at h
    simp only [List.set_cons_succ, dst, xorL, List.zipWith_cons_cons, wt_cons]
    simp only [xorL] at h
    omega
def wrd (x : List Bool) : List Bool := wordB x (mixB x)
theorem wrd_len (x : List Bool) : (wrd x).length = 3 * (x.length + 4) := wordB_len x _ (mixB_len x)
theorem wrd_ne {x y : List Bool} (h : x.length = y.length) (hne : x ≠ y) : 6 ≤ dst (wrd x) (wrd y) := word_dst x y _ _ h (by rw [mixB_len, mixB_len, h]) hne
theorem wrd_take (x : List Bool) : (wrd x).take x.length = x := by
  unfold wrd wordB
  simp only [List.append_assoc]
  rw [List.take_append_of_le_length (Nat.le_refl _), List.take_of_length_le (Nat.le_refl _)]
theorem good_wrd {u k : Nat} (hk : k = szK u) : goodLen (3 * (k + 4)) := by
  refine ⟨by omega, ?_⟩
  have h := szK_valid u
  rw [← hk] at h
  rw [show kLen (3 * (k + 4)) = (k : Int) from by unfold kLen; omega]
  exact h
theorem chk_near {u k : Nat} (hk : k = szK u) {X bs : List Bool} (hX : X.length = k) (hl : bs.length = 3 * (k + 4)) (hd : dst bs (wrd X) ≤ 5) : chkA (bs.map ib) = if bs = wrd X then 0 else 11 := by
  unfold chkA
  rw [if_pos (by rw [List.length_map, hl]; exact good_wrd hk), if_pos (valid_ib bs), toB_map, List.length_map, hl]
  unfold chkE
  rw [show 3 * (k + 4) / 3 - 4 = k from by omega]
  by_cases e : bs = wrd X
  · rw [if_pos e, if_pos]
    rw [e, ← hX, wrd_take]; rfl
  · rw [if_neg e, if_neg]
    intro h
    have h1 : wrd (bs.take k) = bs := ib_inj h
    have h2 : (bs.take k).length = X.length := by rw [List.length_take, hl, hX]; omega
    by_cases hz : bs.take k = X
    · rw [hz] at h1; exact e h1.symm
    · have := wrd_ne h2 hz
      rw [h1] at this
      omega
theorem el49 : El Try.prog 49 50 (.int .u16 0) 2 := ⟨by kernel_rfl, by kernel_rfl, fun _ => by kernel_rfl, rfl⟩
theorem wf_u16 {xs : List Int} (h : ∀ x ∈ xs, (Lit.int .u16 x).wf = true) : ∀ x ∈ xs, 0 ≤ x ∧ x < 65536 := fun x hx => by
  have := bounds_u16 (h x hx); omega
def FlipInv (w : World) (P : List Bool) (L : Nat) (A : Option Addr) (c n : Nat) (i : Value) (wr : World) : Prop :=
  ∃ (j : Nat) (bs : List Bool), j ≤ n ∧ i = .int .i64 j ∧ bs.length = L ∧ dst bs P ≤ j ∧ Own .u8 5 wr w.heap.size A L c (bs.map ib) ∧ Below w.heap.size w wr
end Go.Proofs.Ytkagdiejpcfggaa
