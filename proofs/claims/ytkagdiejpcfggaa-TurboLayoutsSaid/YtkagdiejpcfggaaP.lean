/-
  Contracts of turbo.tail.at, turbo.tail.ending, turbo.stream (two parts) and turbo.Size. Condition: lengths of at most 100000 where one is said.
-/
import Derived.Test.YtkagdiejpcfggaaO
namespace Go.Proofs.Ytkagdiejpcfggaa
open Go.RowKit
set_option linter.unusedVariables false
theorem el62 : El Try.prog 62 22 (.slice none 0 0) 24 := ⟨by kernel_rfl, by kernel_rfl, fun _ => by kernel_rfl, rfl⟩
/-- x[:m:m] -/
theorem Rdv.slhm {P : Program} {w : World} {A : Option Addr} {n c : Nat} {vs : List Value} (h : Rdv w A n c vs) {t e : TypeId} {z : Value} {bytes : Nat} (E : El P t e z bytes) (kh km : IntKind) {m : Nat} (hm : m ≤ c) (W : World) :
    (Instr.sliceAt t (.slice A n c) none (some (.int kh (m : Int))) (some (.int km (m : Int)))).run P W = .ok (.slice A m m) W := by
  have e1 : P.underlying t = some (.slice (P.elem t)) := by rw [E.u]; simp [Program.elem, E.u]
  have e2 : P.elem t = e := by simp [Program.elem, E.u]
  rw [run_sliceAt_slice W t _ _ _ _ e1, run_slice_hm W t A n c e1 kh km m m (by omega) (by omega) (by omega), e2, E.s]
  simp only [Result.andThen_ok, Int.toNat_natCast, sliced, Nat.zero_mul, Nat.sub_zero]
  congr 2
  split
  · rfl
  · cases A <;> simp [Addr.add]
theorem Rdv.capn {w : World} {A : Option Addr} {n c : Nat} {vs : List Value} (h : Rdv w A n c vs) : Rdv w A n n vs := by
  have hle := h.le
  exact ⟨h.len, Nat.le_refl _, Nat.le_trans hle h.cm, fun e => by have := h.nil e; omega, fun hn => h.spot (by omega), fun hn => h.lt (by omega), h.at_⟩
def tailV (x : Nat → Int) : Value := .agg #[.int .u8 (x 0), .int .u8 (x 1), .int .u8 (x 2), .int .u8 (x 3), .int .u8 (x 4), .int .u8 (x 5)]
theorem at_any51 (x : Nat → Int) (i p : Nat) (hip : (i = 0 ∧ p = 1) ∨ (i = 2 ∧ p = 0) ∨ (i = 1 ∧ p = 2)) (w : World) :
    Calls Try.prog 51 #[tailV x, .int .i64 (i : Int), .int .i64 (p : Int)] w fun e w' => e = .returned (.tuple #[.int .u8 (x i), .int .u8 (x (3 + p))]) ∧ Below w.heap.size w w' := by
  unfold tailV
  rcases hip with ⟨rfl, rfl⟩ | ⟨rfl, rfl⟩ | ⟨rfl, rfl⟩
  all_goals (
    go_enter Try.func51, Try.ntmps51
    go_wp2
    go_quiet (fail)
    go_wp2
    go_ret2
    exact ⟨rfl, ((Below.refl _ w).alloc (Nat.le_refl _) _).trans (by first | exact Below.refl _ _ | exact Qt.below ⟨_, rfl⟩ _)⟩)
def endL (x : Nat → Int) (j : Nat) : List Int := if j = 0 then [x 0, x 4] else if j = 1 then [x 3, x 2] else [x 1, x 5]
theorem ending_any31 (x : Nat → Int) (j : Nat) (hj : j < 3) (w : World) :
    Calls Try.prog 31 #[tailV x, .int .i64 (j : Int)] w fun e w' => ∃ A, e = .returned (.slice A 2 2) ∧ Own .u8 5 w' w.heap.size A 2 2 (endL x j) ∧ Below w.heap.size w w' := by
  have h0 := fun W => Lib.hid (at_any51 x 0 1 (by omega) W)
  have h1 := fun W => Lib.hid (at_any51 x 2 0 (by omega) W)
  have h2 := fun W => Lib.hid (at_any51 x 1 2 (by omega) W)
  unfold tailV at *
  rcases (by omega : j = 0 ∨ j = 1 ∨ j = 2) with rfl | rfl | rfl
  · go_enter Try.func31, Try.ntmps31
    go_wp2_with (go_at_call 51; refine (h0 _).out.mono ?_; rintro e w1 ⟨rfl, hB⟩)
    go_ret
    exact ⟨_, rfl, (Own.of_eq (Ownv.lit w1 #[.int .u8 (x 0), .int .u8 (x 4)] 5 rfl (by have := hB.size; simp at this; omega) (by show 2 ≤ maxLen; unfold maxLen; omega)) rfl rfl), (((Below.refl _ w).alloc (Nat.le_refl _) _).trans (hB.mono (by simp))).alloc (by have := hB.size; simp at this; omega) _⟩
  · go_enter Try.func31, Try.ntmps31
    go_wp2_with (go_at_call 51; refine (h1 _).out.mono ?_; rintro e w1 ⟨rfl, hB⟩)
    go_ret
    exact ⟨_, rfl, (Own.of_eq (Ownv.lit w1 #[.int .u8 (x 3), .int .u8 (x 2)] 5 rfl (by have := hB.size; simp at this; omega) (by show 2 ≤ maxLen; unfold maxLen; omega)) rfl rfl), (((Below.refl _ w).alloc (Nat.le_refl _) _).trans (hB.mono (by simp))).alloc (by have := hB.size; simp at this; omega) _⟩
  · go_enter Try.func31, Try.ntmps31
    go_wp2_with (go_at_call 51; refine (h2 _).out.mono ?_; rintro e w1 ⟨rfl, hB⟩)
    go_ret
    exact ⟨_, rfl, (Own.of_eq (Ownv.lit w1 #[.int .u8 (x 1), .int .u8 (x 5)] 5 rfl (by have := hB.size; simp at this; omega) (by show 2 ≤ maxLen; unfold maxLen; omega)) rfl rfl), (((Below.refl _ w).alloc (Nat.le_refl _) _).trans (hB.mono (by simp))).alloc (by have := hB.size; simp at this; omega) _⟩
def stN (n m j : Nat) : Nat := if j = 0 then 0 else if j = 1 then n else n + m
def stX (xs ys : List Int) (j : Nat) : List Int := if j = 0 then [] else if j = 1 then xs else xs ++ ys
def StreamInv (w : World) (n m : Nat) (xs ys : List Int) (i o : Value) (wr : World) : Prop :=
  ∃ (j : Nat) (A : Option Addr) (c : Nat), j ≤ 2 ∧ i = .int .i64 j ∧ o = .slice A (stN n m j) c ∧ Own .u8 5 wr w.heap.size A (stN n m j) c (stX xs ys j) ∧ Below w.heap.size w wr
set_option maxHeartbeats 400000 in
set_option maxRecDepth 100000 in
theorem stream2_any (O A B : Option Addr) (n c m d : Nat) (xs ys : List Int) (w : World) (hp : Rdv w O 2 2 [.slice A n c, .slice B m d]) (hx : Rd .u8 w A n c xs) (hy : Rd .u8 w B m d ys) (hn : n ≤ 100000) (hm : m ≤ 100000) :
    Calls Try.prog 30 #[.slice O 2 2] w fun e w' => ∃ A' c', e = .returned (.slice A' (n + m) c') ∧ Own .u8 5 w' w.heap.size A' (n + m) c' (xs ++ ys) ∧ Below w.heap.size w w' := by
  have sx := fun W => Rdv.slhm hx el22 .i64 .i64 (Rdv.le hx) W
  have sy := fun W => Rdv.slhm hy el22 .i64 .i64 (Rdv.le hy) W
  go_enter Try.func30, Try.ntmps30
  go_wp2
  go_loopw [7, 2] (fun i o wr => StreamInv w n m xs ys i o wr) (fun i _ _ => 2 - (intOf i).toNat)
  case atStart => exact ⟨0, none, 0, by omega, rfl, rfl, Own.nilv _ _ _ _, Below.refl _ _⟩
  case round =>
    obtain ⟨j, A1, c1, hj, rfl, rfl, hO, hB⟩ := hrel
    have hp1 := Rdv.below hp hB
    have hsz := hB.size
    rcases (by omega : j = 0 ∨ j = 1 ∨ j = 2) with rfl | rfl | rfl
    · have hix := fun W => Rdv.ixI hp1 el62 (j := 0) (by omega) .i64 0 rfl W
      have hcell := hp1.at_ 0 _ rfl
      have hxx := Rdv.capn (Rdv.below hx hB)
      have e0 : stN n m 0 = 0 := rfl
      have e1 : stX xs ys 0 = [] := rfl
      rw [e0, e1] at hO
      rw [e0]
      clear e0 e1
      go_wp2_with (at_builtin; refine list_of rfl fun K hK => wp_app _ _ 22 rfl el22 rfl rfl hO hxx (oneCell_ints .u8 xs) (by omega) (by unfold maxLen; omega) hsz ?_; intro A' c' w' hO' hg; refine hK _ _ ?_; clear hK K)
      go_roundw
      case rel => exact ⟨1, A', c', by omega, rfl, by simp [stN], by rw [Nat.zero_add] at hO'; exact hO', hB.grown hg hsz (fun k hk => Ownv.ob' hO hk)⟩
      case measure => simp [intOf]
    · have hix := fun W => Rdv.ixI hp1 el62 (j := 1) (by omega) .i64 1 rfl W
      have hcell := hp1.at_ 1 _ rfl
      have hyy := Rdv.capn (Rdv.below hy hB)
      have e0 : stN n m 1 = n := rfl
      have e1 : stX xs ys 1 = xs := rfl
      rw [e0, e1] at hO
      rw [e0]
      clear e0 e1
      go_wp2_with (at_builtin; refine list_of rfl fun K hK => wp_app _ _ 22 rfl el22 rfl rfl hO hyy (oneCell_ints .u8 ys) (by omega) (by unfold maxLen; omega) hsz ?_; intro A' c' w' hO' hg; refine hK _ _ ?_; clear hK K)
      go_roundw
      case rel => exact ⟨2, A', c', by omega, rfl, by simp [stN], Own.of_eq hO' rfl (by simp [stX]), hB.grown hg hsz (fun k hk => Ownv.ob' hO hk)⟩
      case measure => simp [intOf]
    · go_wp2
      go_ret
      exact ⟨A1, c1, rfl, hO, hB⟩
theorem size_any (k : Int) (w : World) : Calls Try.prog 15 #[.int .i64 k] w fun e w' => e = .returned (.int .i64 (if validK k = true then 3 * (k + 4) else 0)) ∧ Below w.heap.size w w' := by
  cases hv : validK k
  · go_enter Try.func15, Try.ntmps15
    go_wp2_with (go_at_call 27; refine (valid_any _ _).mono ?_; rintro e w1 ⟨rfl, hB⟩; rw [hv])
    go_ret
    exact ⟨ret_int (by simp), hB⟩
  · obtain ⟨h0, h1⟩ := valid_bd hv
    go_enter Try.func15, Try.ntmps15
    go_wp2_with (go_at_call 27; refine (valid_any _ _).mono ?_; rintro e w1 ⟨rfl, hB⟩; rw [hv])
    go_ret
    exact ⟨ret_int (by simp), hB⟩
end Go.Proofs.Ytkagdiejpcfggaa
